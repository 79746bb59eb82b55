/- Part 2 of the proof that is ended in the last text: small logic, what the functions compute, walks, plain laws. -/
import Derived.Test.YteeliipnilghaaaGreatZc1
import Derived.Lib.AppendStr
import Derived.Lib.UnsafeStr
import Derived.Lib.Builder
import Derived.Laws.Externs
import Derived.LaidEql
import Derived.WalkSmall
import Derived.Laws.IdiomCopy
import Derived.Lib.SliceRun
namespace bz
open Go Go.RowKit av J
def ah:Value->List Nat
 | .pointer (some a)=>[a.block]
 | .map (some r)=>[r]
 | .slice (some a) _ (_+ 1)=>[a.block]
 | _=>[]
def bw {El:Nat->Type}:aF El->Value->List Nat
 | .z _ _ _ _,_=>[]
 | .no _,_=>[]
 | _,h=>ah h
def nM {El:Nat->Type} (bl:List (aF El)) (ρ:List Value) (k:Nat):Prop:=∃ (i:Nat) (B:aF El) (h:Value),bl[i]? =some B/\ρ[i]? =some h/\k ∈ bw B h
def bi {El:Nat->Type} (X:Nat->Prop) (bl:List (aF El)) (ρ:List Value) (w:World):Nat->Prop:=fun k=>¬ X k/\ ¬ nM bl ρ k/\k <w.heap.size
def rowIs (w:World) (t sz:Nat) (h:Value) (n:Nat) (xs:List Value):Prop:=w.ownsRow 0 t sz h n xs\/(n= 0 /\xs= []/\ ∃ A,h= .slice A 0 0)
section
variable (T:b3) (F:Nat->Prop) (w:World)
variable (ρ:List Value) (bl:List (aF T.El))
def ia:aF T.El->Value->Prop
 | .c ty cs,h=>∃ g vs,h= .pointer (some ⟨g,0,none⟩)/\w.heap[g]? =some (.cells ⟨vs⟩ ty (0,0))/\a3 T F w ρ bl cs vs
 | .r t _ _ l,h=>∃ A c xs,h= .slice A l.length c/\rowIs w t (T.ty t).size h l.length xs/\dO (T.ty t) F w xs l
 | .k t sz _ cs,h=>∃ A n c xs,h= .slice A n c/\rowIs w t sz h n xs/\a3 T F w ρ bl cs xs
 | .z t _ _ l,h=>(bZ (T.ty t)).rd F w [h] l
 | .m bP vt d,h=>∃ r,h= .map (some r)/\t_ T F w bP vt r d
 | .o Q1,h=>∃ g,h= .pointer (some ⟨g,0,none⟩)/\w.heap[g]? =some Q1
 | .no _,_=>True
end
section
variable {T:b3} {F F':Nat->Prop} {w w':World} {ρ ρ':List Value} {bl bl':List (aF T.El)}
theorem rowIs.len {t sz n:Nat} {h:Value} {xs:List Value} (e:rowIs w t sz h n xs):xs.length=n*sz:=by
 rcases e with e | ⟨rfl,rfl,_⟩
 · exact e.1
 · simp
theorem rowIs.own {t sz n:Nat} {h:Value} {xs:List Value} (e:rowIs w t sz h n xs) (aA:0 <n):w.ownsRow 0 t sz h n xs:=by
 rcases e with e | ⟨rfl,_⟩
 · exact e
 · omega
theorem rowIs.cap {t sz n c:Nat} {A:Option Addr} {xs:List Value} (e:rowIs w t sz (.slice A n c) n xs):n<=c/\c<=maxLen/\(A=none->c= 0)/\(0 <c-> ∃ g,A=some ⟨g,0,none⟩):=by
 rcases e with e | ⟨rfl,_,cN,e⟩
 · rcases e.2 with ⟨I,aN⟩ | ⟨g,cap,cur,I,_,_,aa,aq,_⟩
   · simp only [Value.slice.injEq] at I
     obtain ⟨rfl,rfl,rfl⟩:=I
     exact ⟨Nat.le_refl _,Nat.zero_le _,fun _=>rfl,fun h=>by omega⟩
   · simp only [Value.slice.injEq] at I
     obtain ⟨rfl,_,rfl⟩:=I
     exact ⟨aa,aq,(fun h=>by cases h),fun _=>⟨g,rfl⟩⟩
 · simp only [Value.slice.injEq] at e
   obtain ⟨rfl,_,rfl⟩:=e
   exact ⟨Nat.le_refl _,Nat.zero_le _,fun _=>rfl,fun h=>by omega⟩
theorem rowIs.later {t sz n c:Nat} {A:Option Addr} {xs:List Value} (e:rowIs w t sz (.slice A n c) n xs) (ao:∀ k ∈ ah (.slice A n c),w'.heap[k]? =w.heap[k]?):rowIs w' t sz (.slice A n c) n xs:=by
 cases c with
 | zero=>
   have I:=e.cap.1
   have aa:=e.len
   have aA:n= 0 :=by omega
   subst aA
   exact .inr ⟨rfl,List.eq_nil_of_length_eq_zero (by rw [aa];simp),A,rfl⟩
 | succ c=>
   rcases e with e | ⟨rfl,_,cN,e⟩
   · left
     have:=(a7.row t sz (.slice A n (c+ 1)) (List.replicate n ()) xs).law w w' (fun k ai=>ao k (by cases A with | none=>simp [a7.row,Value.ownBlock] at ai | some a=>simpa [ah,a7.row,Value.ownBlock] using ai))
     simpa [a7.row] using this (by simpa [a7.row] using e)
   · simp at e
theorem ia.later (az:∀ k,F k->F' k/\w'.heap[k]? =w.heap[k]?) (ak:lK T ρ ρ' bl bl') {B:aF T.El} {h:Value} (ao:∀ k ∈ bw B h,w'.heap[k]? =w.heap[k]?) (bN:ia T F w ρ bl B h):ia T F' w' ρ' bl' B h:=by
 cases B with
 | c ty cs=>
   obtain ⟨g,vs,rfl,aa,aq⟩:=bN
   exact ⟨g,vs,rfl,(ao g (by simp [bw,ah])).trans aa,a3.later az ak cs aq⟩
 | r t g k l=>
   obtain ⟨A,c,xs,rfl,aa,aq⟩:=bN
   exact ⟨A,c,xs,rfl,aa.later ao,mq _ az aq⟩
 | k t sz g cs=>
   obtain ⟨A,n,c,xs,rfl,aa,aq⟩:=bN
   exact ⟨A,n,c,xs,rfl,aa.later ao,a3.later az ak cs aq⟩
 | z t g k l=>exact (bZ (T.ty t)).law az bN
 | m bP vt d=>
   obtain ⟨r,rfl,aa⟩:=bN
   exact ⟨r,rfl,aa.law az (ao r (by simp [bw,ah]))⟩
 | o Q1=>
   obtain ⟨g,rfl,aa⟩:=bN
   exact ⟨g,rfl,(ao g (by simp [bw,ah])).trans aa⟩
 | no g=>trivial
end
structure Mem (T:b3) (W:World) (M0:List Nat) (X:Nat->Prop) (bl:List (aF T.El)) (ρ:List Value) (w:World):Prop where
 b6:bp M0 W w
 len:ρ.length=bl.length
 hz:∀ k,X k->k <W.heap.size/\k ∉ M0
 lt:∀ k,nM bl ρ k->k <w.heap.size/\(k ∈ M0\/W.heap.size<=k)
 br:∀ (i j:Nat) (B C:aF T.El) (h g:Value),bl[i]? =some B->ρ[i]? =some h->bl[j]? =some C->ρ[j]? =some g->i≠j-> ∀ k ∈ bw B h,k ∉ bw C g
 ok:∀ (i:Nat) (B:aF T.El) (h:Value),bl[i]? =some B->ρ[i]? =some h->ia T (bi X bl ρ w) w ρ bl B h
section
variable {T:b3} {W w w':World} {M0:List Nat} {X:Nat->Prop} {bl bl':List (aF T.El)} {ρ ρ':List Value}
abbrev Mem.F (_:Mem T W M0 X bl ρ w):Nat->Prop:=bi X bl ρ w
structure To (X:Nat->Prop) (bl bl':List (aF T.El)) (ρ ρ':List Value) (w w':World):Prop where
 F:∀ k,bi X bl ρ w k->bi X bl' ρ' w' k/\w'.heap[k]? =w.heap[k]?
 L:lK T ρ ρ' bl bl'
 sz:w.heap.size<=w'.heap.size
 n4:∀ (i:Nat) (B':aF T.El) (h':Value),bl'[i]? =some B'->ρ'[i]? =some h'-> ∀ k ∈ bw B' h',k <w.heap.size-> ∃ B h,bl[i]? =some B/\ρ[i]? =some h/\k ∈ bw B h
theorem To.v (h:To X bl bl' ρ ρ' w w') {y:aI T.El} {v:Value} (ag:au T (bi X bl ρ w) w ρ bl y v):au T (bi X bl' ρ' w') w' ρ' bl' y v:=ag.later h.F h.L
theorem To.vs (h:To X bl bl' ρ ρ' w w') {y:List (aI T.El)} {v:List Value} (ag:a3 T (bi X bl ρ w) w ρ bl y v):a3 T (bi X bl' ρ' w') w' ρ' bl' y v:=a3.later h.F h.L y ag
theorem To.trans {r9:List (aF T.El)} {CF:List Value} {w'':World} (h:To X bl bl' ρ ρ' w w') (k:To X bl' r9 ρ' CF w' w''):To X bl r9 ρ CF w w'':=
 ⟨fun q aQ=>⟨(k.F q (h.F q aQ).1).1,((k.F q (h.F q aQ).1).2).trans (h.F q aQ).2⟩,h.L.trans k.L,Nat.le_trans h.sz k.sz,fun i B' h' hi bu q aQ bs=>by
  obtain ⟨xa,I,e1,e2,e3⟩:=k.n4 i B' h' hi bu q aQ (Nat.lt_of_lt_of_le bs h.sz)
  exact h.n4 i xa I e1 e2 q e3 bs⟩
theorem To.refl:To X bl bl ρ ρ w w:=⟨fun _ h=>⟨h,rfl⟩,.refl,Nat.le_refl _,fun _ B h hi bu _ ai _=>⟨B,h,hi,bu,ai⟩⟩
theorem Mem.Bp (hm:Mem T W M0 X bl ρ w) {i:Nat} {B:aF T.El} (hi:bl[i]? =some B):∃ h,ρ[i]? =some h:=by
 have:=(List.getElem?_eq_some_iff.1 hi).1
 exact ⟨ρ[i]'(by rw [hm.len];exact this),List.getElem?_eq_getElem _⟩
theorem Mem.Ca (ag:bp [] w w'):To X bl bl ρ ρ w w':=⟨fun k ai=>⟨⟨ai.1,ai.2.1,Nat.lt_of_lt_of_le ai.2.2 ag.size⟩,ag.block k ai.2.2 (by simp)⟩,.refl,ag.size,fun _ B h hi bu _ ai _=>⟨B,h,hi,bu,ai⟩⟩
theorem Mem.ff (hm:Mem T W M0 X bl ρ w) (ag:bp [] w w'):Mem T W M0 X bl ρ w':=
 ⟨hm.b6.trans ag (by simp),hm.len,hm.hz,fun k ai=>⟨Nat.lt_of_lt_of_le (hm.lt k ai).1 ag.size,(hm.lt k ai).2⟩,hm.br,fun i B h hi bu=>(hm.ok i B h hi bu).later (Mem.Ca ag).F .refl fun k ai=>ag.block k (hm.lt k ⟨i,B,h,hi,bu,ai⟩).1 (by simp)⟩
theorem Mem.Cb (hm:Mem T W M0 X bl ρ w) {i:Nat} {B B':aF T.El} {h h':Value} (hi:bl[i]? =some B) (bu:ρ[i]? =some h) (ag:bp (bw B h) w w')
 (af:∀ k ∈ bw B' h',k ∈ bw B h\/(w.heap.size<=k/\k <w'.heap.size))
 (ak:(¬ mf h->h'=h)/\b1 (some B)<=b1 (some B')/\(b1 (some B')=b1 (some B)->h'=h/\iv T (some B')=iv T (some B)/\gx (some B)<=gx (some B')/\(gx (some B')=gx (some B)->p0 (some B')=p0 (some B)))) :
 To X bl (bl.set i B') ρ (ρ.set i h') w w':=by
 have l1:=(List.getElem?_eq_some_iff.1 hi).1
 have cj:=(List.getElem?_eq_some_iff.1 bu).1
 refine ⟨fun k ai=>⟨⟨ai.1,?_,Nat.lt_of_lt_of_le ai.2.2 ag.size⟩,ag.block k ai.2.2 fun ad=>ai.2.1 ⟨i,B,h,hi,bu,ad⟩⟩,⟨fun j u aC=>?_⟩,ag.size,fun j C g aC aw k ai bs=>?_⟩
 · rintro ⟨j,C,g,aC,aw,cM⟩
   by_cases e:j=i
   · subst e
     rw [List.getElem?_set_self l1] at aC
     rw [List.getElem?_set_self cj] at aw
     cases aC;cases aw
     rcases af k cM with e | e
     · exact ai.2.1 ⟨j,B,h,hi,bu,e⟩
     · have:=ai.2.2;omega
   · rw [List.getElem?_set_ne (Ne.symm e)] at aC aw
     exact ai.2.1 ⟨j,C,g,aC,aw,cM⟩
 · by_cases e:j=i
   · subst e
     rw [bu] at aC
     cases aC
     refine ⟨h',List.getElem?_set_self cj,?_⟩
     rw [List.getElem?_set_self l1,hi]
     exact ak
   · refine ⟨u,by rw [List.getElem?_set_ne (Ne.symm e)];exact aC,fun _=>rfl,?_⟩
     rw [List.getElem?_set_ne (Ne.symm e)]
     exact ⟨Nat.le_refl _,fun _=>⟨rfl,rfl,Nat.le_refl _,fun _=>rfl⟩⟩
 · by_cases e:j=i
   · subst e
     rw [List.getElem?_set_self l1] at aC
     rw [List.getElem?_set_self cj] at aw
     cases aC;cases aw
     rcases af k ai with e | e
     · exact ⟨B,h,hi,bu,e⟩
     · omega
   · rw [List.getElem?_set_ne (Ne.symm e)] at aC aw
     exact ⟨C,g,aC,aw,ai⟩
theorem Mem.ej (hm:Mem T W M0 X bl ρ w) {i:Nat} {B B':aF T.El} {h h':Value} (hi:bl[i]? =some B) (bu:ρ[i]? =some h) (ag:bp (bw B h) w w')
 (af:∀ k ∈ bw B' h',k ∈ bw B h\/(w.heap.size<=k/\k <w'.heap.size)) (aJ:To X bl (bl.set i B') ρ (ρ.set i h') w w')
 (bN:ia T (bi X (bl.set i B') (ρ.set i h') w') w' (ρ.set i h') (bl.set i B') B' h'):Mem T W M0 X (bl.set i B') (ρ.set i h') w':=by
 have l1:=(List.getElem?_eq_some_iff.1 hi).1
 have cj:=(List.getElem?_eq_some_iff.1 bu).1
 have key:∀ {j:Nat} {C:aF T.El} {g:Value},(bl.set i B')[j]? =some C->(ρ.set i h')[j]? =some g->(j=i/\C=B'/\g=h')\/(j≠i/\bl[j]? =some C/\ρ[j]? =some g):=fun {j C g} aC aw=>by
  by_cases e:j=i
  · subst e
    rw [List.getElem?_set_self l1] at aC
    rw [List.getElem?_set_self cj] at aw
    cases aC;cases aw
    exact .inl ⟨rfl,rfl,rfl⟩
  · rw [List.getElem?_set_ne (Ne.symm e)] at aC aw
    exact .inr ⟨e,aC,aw⟩
 refine ⟨hm.b6.trans ag fun k ai=>(hm.lt k ⟨i,B,h,hi,bu,ai⟩).2,by simp [hm.len],hm.hz,?_,?_,?_⟩
 · rintro k ⟨j,C,g,aC,aw,ai⟩
   rcases key aC aw with ⟨rfl,rfl,rfl⟩ | ⟨_,I,aa⟩
   · rcases af k ai with e | e
     · have:=hm.lt k ⟨j,B,h,hi,bu,e⟩
       exact ⟨Nat.lt_of_lt_of_le this.1 ag.size,this.2⟩
     · exact ⟨e.2,.inr (Nat.le_trans hm.b6.size e.1)⟩
   · have:=hm.lt k ⟨j,C,g,I,aa,ai⟩
     exact ⟨Nat.lt_of_lt_of_le this.1 ag.size,this.2⟩
 · intro a b C D g u aK aw fK hu b2 k ai cM
   rcases key aK aw with ⟨rfl,rfl,rfl⟩ | ⟨e1,I,aa⟩
   · rcases key fK hu with ⟨rfl,_⟩ | ⟨e2,bf,bh⟩
     · exact b2 rfl
     · rcases af k ai with e | e
       · exact hm.br _ _ _ _ _ _ hi bu bf bh b2 k e cM
       · have:=(hm.lt k ⟨b,D,u,bf,bh,cM⟩).1;omega
   · rcases key fK hu with ⟨rfl,rfl,rfl⟩ | ⟨e2,bf,bh⟩
     · rcases af k cM with e | e
       · exact hm.br _ _ _ _ _ _ I aa hi bu b2 k ai e
       · have:=(hm.lt k ⟨a,C,g,I,aa,ai⟩).1;omega
     · exact hm.br _ _ _ _ _ _ I aa bf bh b2 k ai cM
 · intro j C g aC aw
   rcases key aC aw with ⟨rfl,rfl,rfl⟩ | ⟨e1,I,aa⟩
   · exact bN
   · exact (hm.ok j C g I aa).later aJ.F aJ.L fun k ai=>ag.block k (hm.lt k ⟨j,C,g,I,aa,ai⟩).1 fun ad=>hm.br _ _ _ _ _ _ I aa hi bu e1 k ai ad
theorem Mem.ww (hm:Mem T W M0 X bl ρ w) {B:aF T.El} {h:Value} (ag:bp [] w w') (af:∀ k ∈ bw B h,w.heap.size<=k/\k <w'.heap.size):To X bl (bl++[B]) ρ (ρ++[h]) w w':=by
 refine ⟨fun k ai=>⟨⟨ai.1,?_,Nat.lt_of_lt_of_le ai.2.2 ag.size⟩,ag.block k ai.2.2 (by simp)⟩,⟨fun j u aC=>?_⟩,ag.size,fun j C g aC aw k ai bs=>?_⟩
 · rintro ⟨j,C,g,aC,aw,cM⟩
   rcases Nat.lt_or_ge j bl.length with e | e
   · rw [List.getElem?_append_left e] at aC
     rw [List.getElem?_append_left (by rw [hm.len];exact e)] at aw
     exact ai.2.1 ⟨j,C,g,aC,aw,cM⟩
   · rw [List.getElem?_append_right e] at aC
     rw [List.getElem?_append_right (by rw [hm.len];exact e),hm.len] at aw
     cases aL:j - bl.length with
     | zero=>
       rw [aL] at aC aw
       simp only [List.getElem?_cons_zero,Option.some.injEq] at aC aw
       subst aC;subst aw
       have:=(af k cM).1
       have:=ai.2.2
       omega
     | succ q=>rw [aL] at aC;simp at aC
 · have e:=(List.getElem?_eq_some_iff.1 aC).1
   have e':j <bl.length:=by rw [<-hm.len];exact e
   refine ⟨u,by rw [List.getElem?_append_left e];exact aC,fun _=>rfl,?_⟩
   rw [List.getElem?_append_left e']
   exact ⟨Nat.le_refl _,fun _=>⟨rfl,rfl,Nat.le_refl _,fun _=>rfl⟩⟩
 · rcases Nat.lt_or_ge j bl.length with e | e
   · rw [List.getElem?_append_left e] at aC
     rw [List.getElem?_append_left (by rw [hm.len];exact e)] at aw
     exact ⟨C,g,aC,aw,ai⟩
   · rw [List.getElem?_append_right e] at aC
     rw [List.getElem?_append_right (by rw [hm.len];exact e),hm.len] at aw
     cases aL:j - bl.length with
     | zero=>
       rw [aL] at aC aw
       simp only [List.getElem?_cons_zero,Option.some.injEq] at aC aw
       subst aC;subst aw
       have:=(af k ai).1
       omega
     | succ q=>rw [aL] at aC;simp at aC
theorem Mem.push (hm:Mem T W M0 X bl ρ w) {B:aF T.El} {h:Value} (ag:bp [] w w') (af:∀ k ∈ bw B h,w.heap.size<=k/\k <w'.heap.size)
 (bN:ia T (bi X (bl++[B]) (ρ++[h]) w') w' (ρ++[h]) (bl++[B]) B h):Mem T W M0 X (bl++[B]) (ρ++[h]) w':=by
 have aJ:=hm.ww ag af (B:=B) (h:=h)
 have key:∀ {j:Nat} {C:aF T.El} {g:Value},(bl++[B])[j]? =some C->(ρ++[h])[j]? =some g->(j=bl.length/\C=B/\g=h)\/(j <bl.length/\bl[j]? =some C/\ρ[j]? =some g):=fun {j C g} aC aw=>by
  rcases Nat.lt_or_ge j bl.length with e | e
  · rw [List.getElem?_append_left e] at aC
    rw [List.getElem?_append_left (by rw [hm.len];exact e)] at aw
    exact .inr ⟨e,aC,aw⟩
  · rw [List.getElem?_append_right e] at aC
    rw [List.getElem?_append_right (by rw [hm.len];exact e),hm.len] at aw
    cases aL:j - bl.length with
    | zero=>
      rw [aL] at aC aw
      simp only [List.getElem?_cons_zero,Option.some.injEq] at aC aw
      exact .inl ⟨by omega,aC.symm,aw.symm⟩
    | succ q=>rw [aL] at aC;simp at aC
 refine ⟨hm.b6.trans ag (by simp),by simp [hm.len],hm.hz,?_,?_,?_⟩
 · rintro k ⟨j,C,g,aC,aw,ai⟩
   rcases key aC aw with ⟨rfl,rfl,rfl⟩ | ⟨_,I,aa⟩
   · exact ⟨(af k ai).2,.inr (Nat.le_trans hm.b6.size (af k ai).1)⟩
   · have:=hm.lt k ⟨j,C,g,I,aa,ai⟩
     exact ⟨Nat.lt_of_lt_of_le this.1 ag.size,this.2⟩
 · intro a b C D g u aK aw fK hu b2 k ai cM
   rcases key aK aw with ⟨rfl,rfl,rfl⟩ | ⟨e1,I,aa⟩
   · rcases key fK hu with ⟨rfl,_⟩ | ⟨e2,bf,bh⟩
     · exact b2 rfl
     · have:=(hm.lt k ⟨b,D,u,bf,bh,cM⟩).1
       have:=(af k ai).1
       omega
   · rcases key fK hu with ⟨rfl,rfl,rfl⟩ | ⟨e2,bf,bh⟩
     · have:=(hm.lt k ⟨a,C,g,I,aa,ai⟩).1
       have:=(af k cM).1
       omega
     · exact hm.br _ _ _ _ _ _ I aa bf bh b2 k ai cM
 · intro j C g aC aw
   rcases key aC aw with ⟨rfl,rfl,rfl⟩ | ⟨e1,I,aa⟩
   · exact bN
   · exact (hm.ok j C g I aa).later aJ.F aJ.L fun k ai=>ag.block k (hm.lt k ⟨j,C,g,I,aa,ai⟩).1 (by simp)
end
def ev {α:Type}:List (Nat × α)->Nat->Option α
 | [],_=>none
 | p::r,t=>match Nat.beq p.1 t with
   | true=>some p.2
   | false=>ev r t
structure qd (T:b3) (F:Nat->Prop) (w:World) (ρ:List Value) (bl:List (aF T.El)) (n:cI) (a_:List (Nat × aI T.El)) (a:Act):Prop where
 size:a.tmps.size=n.n
 defers:a.defers=n.ds
 get:∀ t y,ev a_ t=some y->au T F w ρ bl y (a.tmps.getD t undef)
section
variable {T:b3} {F F':Nat->Prop} {w w':World} {ρ ρ':List Value} {bl bl':List (aF T.El)} {n:cI} {a_:List (Nat × aI T.El)} {a:Act}
theorem qd.later (az:∀ k,F k->F' k/\w'.heap[k]? =w.heap[k]?) (ak:lK T ρ ρ' bl bl') (h:qd T F w ρ bl n a_ a):qd T F' w' ρ' bl' n a_ a:=⟨h.size,h.defers,fun t y hy=>(h.get t y hy).later az ak⟩
theorem yd {a:Act} {d t:Nat} {v:Value} (aL:d <a.tmps.size):(a.put (some d) v).tmps.getD t undef=if d=t then v else a.tmps.getD t undef:=by
 simp only [Act.put,Array.getD_eq_getD_getElem?,Array.getElem?_setIfInBounds]
 by_cases e:d=t
 · subst e;simp [aL]
 · simp [e]
theorem qd.put {d:Nat} {y:aI T.El} {v:Value} (h:qd T F w ρ bl n a_ a) (aL:Nat.blt d n.n=true) (ag:au T F w ρ bl y v):qd T F w ρ bl n ((d,y)::a_) (a.put (some d) v):=by
 have bs:d <n.n:=Nat.le_of_ble_eq_true aL
 refine ⟨by simpa [Act.put] using h.size,h.defers,fun t z aj=>?_⟩
 rw [yd (by rw [h.size];exact bs)]
 simp only [ev] at aj
 cases ah:Nat.beq d t with
 | true=>
   rw [ah] at aj
   simp only [Option.some.injEq] at aj
   rw [if_pos (Nat.eq_of_beq_eq_true ah),<-aj];exact ag
 | false=>
   rw [ah] at aj
   rw [if_neg (fun e=>by subst e;simp at ah)]
   exact h.get t z aj
def ms {α:Type}:List (Nat × α)->Nat->List (Nat × α)
 | [],_=>[]
 | p::r,t=>match Nat.beq p.1 t with
   | true=>ms r t
   | false=>p::ms r t
theorem I0 {α:Type} {d t:Nat} {y:α}:∀ {a_:List (Nat × α)},ev (ms a_ d) t=some y->t≠d/\ev a_ t=some y
 | [],h=>by simp [ms,ev] at h
 | p::r,h=>by
   simp only [ms] at h
   cases ah:Nat.beq p.1 d with
   | true=>
     rw [ah] at h
     obtain ⟨I,aa⟩:=I0 h
     refine ⟨I,?_⟩
     simp only [ev]
     cases hc:Nat.beq p.1 t with
     | true=>exact absurd ((Nat.eq_of_beq_eq_true hc).symm.trans (Nat.eq_of_beq_eq_true ah)) I
     | false=>exact aa
   | false=>
     rw [ah] at h
     simp only [ev] at h ⊢
     cases hc:Nat.beq p.1 t with
     | true=>
       rw [hc] at h
       refine ⟨fun e=>?_,h⟩
       rw [Nat.eq_of_beq_eq_true hc,e] at ah
       simp at ah
     | false=>rw [hc] at h;exact I0 h
theorem qd.J7 {d:Nat} {v:Value} (h:qd T F w ρ bl n a_ a) (aL:Nat.blt d n.n=true):qd T F w ρ bl n (ms a_ d) (a.put (some d) v):=by
 have bs:d <n.n:=Nat.le_of_ble_eq_true aL
 refine ⟨by simpa [Act.put] using h.size,h.defers,fun t z aj=>?_⟩
 obtain ⟨I,aa⟩:=I0 aj
 rw [yd (by rw [h.size];exact bs),if_neg (Ne.symm I)]
 exact h.get t z aa
end
end bz
namespace J
def dx {α β cp:Type} (o:Option (α ⊕ β)) (k:α->Option cp) (l:β->Option cp):Option cp:=match o with
 | none=>none
 | some (.inl a)=>k a
 | some (.inr b)=>l b
end J
namespace bz
open Go Go.RowKit av J
inductive D (α:Type):Type 1
 | ok (a:α)
 | no
 | op {β:Type} (o:Option β) (k:β->D α)
 | nV (c:Bool) (x y:D α)
 | rv {β cp:Type} (o:Option (β ⊕ cp)) (k:β->D α) (l:cp->D α)
def D.bind {α β:Type}:D α->(α->D β)->D β
 | .ok a,f=>f a
 | .no,_=>.no
 | .op o k,f=>.op o fun b=>(k b).bind f
 | .nV c x y,f=>.nV c (x.bind f) (y.bind f)
 | .rv o k l,f=>.rv o (fun b=>(k b).bind f) (fun c=>(l c).bind f)
def D.run {α ρ:Type}:D α->(α->Option ρ)->Option ρ
 | .ok a,K=>K a
 | .no,_=>none
 | .op o k,K=>o.bind fun b=>(k b).run K
 | .nV c x y,K=>cond c (x.run K) (y.run K)
 | .rv o k l,K=>dx o (fun b=>(k b).run K) (fun c=>(l c).run K)
def D.out {α:Type}:D α->α->Prop
 | .ok b,a=>b=a
 | .no,_=>False
 | .op o k,a=>∃ b,o=some b/\(k b).out a
 | .nV c x y,a=>(c=true/\x.out a)\/(c=false/\y.out a)
 | .rv o k l,a=>(∃ b,o=some (.inl b)/\(k b).out a)\/(∃ c,o=some (.inr c)/\(l c).out a)
theorem D.wb {α ρ:Type} {r:ρ}:∀ {d:D α} {K:α->Option ρ},d.run K=some r-> ∃ a,d.out a/\K a=some r
 | .ok a,K,h=>⟨a,rfl,h⟩
 | .no,K,h=>by cases h
 | .op o k,K,h=>by
   obtain ⟨b,I,aa⟩:=fW h
   obtain ⟨a,aq,a'⟩:=D.wb aa
   exact ⟨a,⟨b,I,aq⟩,a'⟩
 | .nV c x y,K,h=>by
   cases c with
   | true=>obtain ⟨a,aq,a'⟩:=D.wb (d:=x) h;exact ⟨a,.inl ⟨rfl,aq⟩,a'⟩
   | false=>obtain ⟨a,aq,a'⟩:=D.wb (d:=y) h;exact ⟨a,.inr ⟨rfl,aq⟩,a'⟩
 | .rv o k l,K,h=>by
   cases o with
   | none=>cases h
   | some s=>
     cases s with
     | inl b=>obtain ⟨a,aq,a'⟩:=D.wb (d:=k b) h;exact ⟨a,.inl ⟨b,rfl,aq⟩,a'⟩
     | inr c=>obtain ⟨a,aq,a'⟩:=D.wb (d:=l c) h;exact ⟨a,.inr ⟨c,rfl,aq⟩,a'⟩
theorem D.j4 {α β:Type}:∀ {d:D α} {f:α->D β} {b:β},(d.bind f).out b-> ∃ a,d.out a/\(f a).out b
 | .ok a,f,b,h=>⟨a,rfl,h⟩
 | .no,f,b,h=>h.elim
 | .op o k,f,b,h=>by
   obtain ⟨x,I,aa⟩:=h
   obtain ⟨a,aq,a'⟩:=D.j4 aa
   exact ⟨a,⟨x,I,aq⟩,a'⟩
 | .nV c x y,f,b,h=>by
   rcases h with ⟨I,aa⟩ | ⟨I,aa⟩
   · obtain ⟨a,aq,a'⟩:=D.j4 aa;exact ⟨a,.inl ⟨I,aq⟩,a'⟩
   · obtain ⟨a,aq,a'⟩:=D.j4 aa;exact ⟨a,.inr ⟨I,aq⟩,a'⟩
 | .rv o k l,f,b,h=>by
   rcases h with ⟨x,I,aa⟩ | ⟨x,I,aa⟩
   · obtain ⟨a,aq,a'⟩:=D.j4 aa;exact ⟨a,.inl ⟨x,I,aq⟩,a'⟩
   · obtain ⟨a,aq,a'⟩:=D.j4 aa;exact ⟨a,.inr ⟨x,I,aq⟩,a'⟩
def D.of {α:Type}:Option α->D α
 | some a=>.ok a
 | none=>.no
theorem D.ng {α:Type} {o:Option α} {a:α} (h:(D.of o).out a):o=some a:=by
 cases o with
 | none=>exact h.elim
 | some b=>exact congrArg some h
structure Env where
 P:Program
 T:b3
 dR:List (Nat × aI T.El)
 gG:Bool
 cq:List Nat
 km:Nat
 G2:List UInt8->List (T.El km)
def lay (P:Program) (t:TypeId):Option (Bool × Nat):=match P.underlying t,P.info? t with
 | some (.struct _),some i=>some (true,i.size)
 | some (.array _ _),some i=>some (true,i.size)
 | some _,some i=>some (false,i.size)
 | _,_=>none
theorem run_sizeOf {P:Program} {t:TypeId} {i:TypeInfo} (h:P.info? t=some i) (w:World):(Go.sizeOf t).run P w= .ok i.size w:=by
 simp [Go.sizeOf,typeInfo,go_sem,h]
theorem EA {P:Program} {t:TypeId} {b:Bool} {n:Nat} (h:lay P t=some (b,n)):(∀ w,(isAgg t).run P w= .ok b w)/\ ∀ w,(Go.sizeOf t).run P w= .ok n w:=by
 unfold lay at h
 split at h
 · rename_i I aa
   simp only [Option.some.injEq,Prod.mk.injEq] at h
   obtain ⟨rfl,rfl⟩:=h
   exact ⟨fun w=>by simp [isAgg,run_underlying I],run_sizeOf aa⟩
 · rename_i I aa
   simp only [Option.some.injEq,Prod.mk.injEq] at h
   obtain ⟨rfl,rfl⟩:=h
   exact ⟨fun w=>by simp [isAgg,run_underlying I],run_sizeOf aa⟩
 · rename_i d i Il Im I aa
   simp only [Option.some.injEq,Prod.mk.injEq] at h
   obtain ⟨rfl,rfl⟩:=h
   refine ⟨fun w=>?_,run_sizeOf aa⟩
   simp only [isAgg,Sem.run_bind,run_underlying I,Result.andThen_ok]
   cases d <;> first | rfl | (exact absurd I (by simpa using Il _)) | (exact absurd I (by simpa using Im _ _))
 · cases h
def jH:Option TypeDesc->Option lJ
 | some (.int k)=>some (.i k)
 | some .bool=>some .b
 | some .string=>some .s
 | some (.slice _)=>some .cf
 | _=>none
theorem sN {P:Program} {t:TypeId} {k:lJ} (h:jH (P.underlying t)=some k):k.ok P t:=by
 unfold jH at h
 split at h <;> simp only [Option.some.injEq,reduceCtorEq] at h <;> subst h
 · rename_i h;exact h
 · rename_i h;exact h
 · rename_i h;exact h
 · rename_i e h;exact ⟨e,h⟩
def HI (P:Program) (s j:Nat):Option (Nat × Nat × Nat):=match P.underlying s with
 | some (.struct cq)=>match nth cq.toList j with
   | some f=>match P.info? f.type with
     | some i=>match Nat.beq i.size 0 with
       | true=>none
       | false=>some (f.offset,f.type,i.size)
     | none=>none
   | none=>none
 | _=>none
theorem XL {P:Program} {s j off t n:Nat} (h:HI P s j=some (off,t,n)):∃ cq f,P.underlying s=some (.struct cq)/\cq[j]? =some f/\f.offset=off/\f.type=t/\(∀ w,(Go.sizeOf f.type).run P w= .ok n w)/\Nat.beq n 0 =false:=by
 unfold HI at h
 split at h
 · rename_i cq I
   split at h
   · rename_i f aa
     split at h
     · rename_i i aq
       split at h
       · cases h
       · rename_i a'
         simp only [Option.some.injEq,Prod.mk.injEq] at h
         obtain ⟨rfl,rfl,rfl⟩:=h
         rw [cU,Array.getElem?_toList] at aa
         exact ⟨cq,f,I,aa,rfl,rfl,run_sizeOf aq,a'⟩
     · cases h
   · cases h
 · cases h
section
variable {El:Nat->Type}
def kZ (cs:List (aI El)) (o:Nat):Bool × Nat->Option (aI El)
 | (false,_)=>nth cs o
 | (true,n)=>match Nat.ble (o+n) cs.length with
   | true=>some (.a ((cs.drop o).take n))
   | false=>none
end
section
variable {T:b3} {F:Nat->Prop} {w:World} {ρ:List Value} {bl:List (aF T.El)} {P:Program}
theorem AD {cs:List (aI T.El)} {o a q t:Nat} {gF:Bool × Nat} {y:aI T.El} {vs:List Value} (ak:lay P t=some gF) (h:kZ cs o gF=some y) (ay:a3 T F w ρ bl cs vs) (hc:eT w ⟨a,q,none⟩ vs) :
 ∃ v us,au T F w ρ bl y v/\eT w ⟨a,q+o,none⟩ us/\ ∀ (op:Oper) (ac:Act) (x:Operand) (w':World),op.op= .load t x->ac.eval x= .pointer (some ⟨a,q+o,none⟩)->eT w' ⟨a,q+o,none⟩ us->bd P op ac w' v w':=by
 obtain ⟨b,n⟩:=gF
 have yz:=EA ak
 cases b with
 | false=>
   simp only [kZ] at h
   rw [cU] at h
   obtain ⟨v,I,aa⟩:=ay.at_ h
   refine ⟨v,[v],aa,fun j u aC=>?_,fun op ac x w' ap ad pt=>UF yz.1 ap ad (by simpa using pt 0 v rfl)⟩
   cases j with
   | zero=>simp only [List.getElem?_cons_zero,Option.some.injEq] at aC;subst aC;simpa using hc o v I
   | succ j=>simp at aC
 | true=>
   simp only [kZ] at h
   split at h
   · rename_i ah
     simp only [Option.some.injEq] at h
     subst h
     have hle:=Nat.le_of_ble_eq_true ah
     have hlen:=ay.len
     refine ⟨.agg ⟨(vs.drop o).take n⟩,(vs.drop o).take n,?_,fun j u aC=>?_,fun op ac x w' ap ad pt=>agJ yz.1 yz.2 (by simp;omega) ap ad pt⟩
     · simp only [au]
       exact ⟨_,rfl,a3.take n (a3.drop o ay)⟩
     · rw [List.getElem?_take] at aC
       split at aC
       · rw [List.getElem?_drop] at aC
         have:=hc (o+j) u aC
         simpa [Nat.add_assoc] using this
       · cases aC
   · cases h
end
end bz
namespace bz
open Go Go.RowKit av J
structure uu (T:b3):Prop where
 cs:∀ t d F w xs,(T.ty t).rd F w xs d->a3 T F w [] [] ((T.e t).cs d) xs
 gU:∀ t aX d,(T.e t).gU aX=some d-> ∀ F w ρ bl xs,a3 T F w ρ bl aX xs->(T.ty t).rd F w xs d
 key:∀ t K,(T.e t).key=some K-> ∀ F w xs k,(T.ty t).rd F w xs k->vZ (T.e t).agg xs= @kd.enc _ K.dec K.pB k
 one:∀ t,(T.e t).agg=false-> ∀ d,((T.e t).cs d).length= 1
def b3.val (T:b3) (t:Nat) (d:T.El t):aI T.El:=match (T.e t).agg with
 | true=>.a ((T.e t).cs d)
 | false=>((T.e t).cs d).headD (.p undef)
structure dn (E:Env):Prop where
 tb:uu E.T
 call:∀ f ∈ E.cq,∀ args w,(callFunc f args).run E.P w= .ok (.enter f args) w
 asY:E.P.follows .mixedOrders=true
 Vv:∀ l,(E.G2 l).length=l.length
 akZ:∀ F w l xs,dO Ku F w xs l->dO (E.T.ty E.km) F w xs (E.G2 l)
 eq:∀ t f,(E.T.e t).eq=some f-> ∀ F w xs ys d e,(E.T.ty t).rd F w xs d->(E.T.ty t).rd F w ys e-> ∀ (o:Oper) (a:Act) (x y:Operand) (t':TypeId) (b:Bool),o.op= .binOp (cond b .eql .neq) t x y t'->a.eval x= .agg ⟨xs⟩->a.eval y= .agg ⟨ys⟩-> ∀ w',bd E.P o a w' (.bool (cond b (f d e) (!f d e))) w'
section
variable {T:b3} {F:Nat->Prop} {w:World} {ρ:List Value} {bl:List (aF T.El)}
theorem asu {w:World} {F:Nat->Prop} {l:List (aI T.El)} {vs:List Value} (h:a3 T F w [] [] l vs):a3 T F w ρ bl l vs:=a3.later (fun _ h=>⟨h,rfl⟩) ⟨fun i h hi=>by simp at hi⟩ l h
theorem uu.cells (fx:uu T) {t:Nat} {d:T.El t} {xs:List Value} (h:(T.ty t).rd F w xs d):a3 T F w ρ bl ((T.e t).cs d) xs:=asu (fx.cs t d F w xs h)
theorem uu.val (fx:uu T) {t:Nat} {d:T.El t} {xs:List Value} (h:(T.ty t).rd F w xs d):au T F w ρ bl (T.val t d) (vZ (T.e t).agg xs):=by
 have hc:=fx.cells (ρ:=ρ) (bl:=bl) h
 unfold b3.val
 cases aK:(T.e t).agg with
 | true=>simp only [au,vZ];exact ⟨xs,rfl,hc⟩
 | false=>
   have I:=fx.one t aK d
   cases hcs:(T.e t).cs d with
   | nil=>rw [hcs] at I;simp at I
   | cons y r=>
     rw [hcs] at hc
     simp only [a3] at hc
     obtain ⟨u,us,rfl,hu,_⟩:=hc
     exact hu
def Rk {El:Nat->Type}:aI El->Nat->Option (aI El)
 | .b i o,n=>some (.b i (o+n))
 | .x t d o,n=>some (.x t d (o+n))
 | .e i g k t j d o,n=>some (.e i g k t j d (o+n))
 | .w i g o,n=>some (.w i g (o+n))
 | _,_=>none
def JI {El:Nat->Type} (gs:Nat->Nat):aI El->Bool
 | .b _ _=>true
 | .x _ _ _=>true
 | .e i g _ _ _ _ _=>Nat.beq g (gs i)
 | .w i g _=>Nat.beq g (gs i)
 | _=>false
def qE {El:Nat->Type} (bl:List (aF El)) (i:Nat):Nat:=b1 (nth bl i)
theorem yg {El:Nat->Type} (bl:List (aF El)) (i:Nat):qE bl i=b1 bl[i]? :=by rw [qE,cU]
theorem auq {y fz:aI T.El} {n:Nat} {v:Value} (hi:JI (qE bl) y=true) (h:Rk y n=some fz) (ag:au T F w ρ bl y v):∃ g o,v= .pointer (some ⟨g,o,none⟩)/\au T F w ρ bl fz (.pointer (some ⟨g,o+n,none⟩)):=by
 cases y <;> simp only [Rk,Option.some.injEq,reduceCtorEq] at h <;> subst h
 · simp only [au] at ag
   obtain ⟨g,I,aa⟩:=ag
   refine ⟨g,_,aa,?_⟩
   simp only [au]
   exact ⟨g,I,rfl⟩
 · simp only [au] at ag
   obtain ⟨a,q,cs,I,aa,aq,a'⟩:=ag
   refine ⟨a,_,I,?_⟩
   simp only [au]
   exact ⟨a,q,cs,by rw [Nat.add_assoc],aa,aq,a'⟩
 · simp only [au] at ag
   obtain ⟨_,u,I,aa,aq⟩:=ag
   simp only [JI] at hi
   have hi:=Nat.eq_of_beq_eq_true hi
   rw [yg] at hi
   obtain ⟨⟨A,fD,c,bf,bh,ca,c6⟩,m7,vm⟩:=aq hi
   refine ⟨_,_,c6,?_⟩
   simp only [au]
   exact ⟨trivial,u,I,aa,fun _=>⟨⟨A,fD,c,bf,bh,ca,by rw [Nat.add_assoc]⟩,m7,vm⟩⟩
 · simp only [au] at ag
   obtain ⟨_,u,I,aa,aq⟩:=ag
   simp only [JI] at hi
   have hi:=Nat.eq_of_beq_eq_true hi
   rw [yg] at hi
   obtain ⟨A,fD,c,bf,bh,c6⟩:=aq hi
   refine ⟨_,_,c6,?_⟩
   simp only [au]
   exact ⟨trivial,u,I,aa,fun _=>⟨A,fD,c,bf,bh,rfl⟩⟩
def nm {El:Nat->Type} (bl:List (aF El)):aI El->aI El
 | .r i g=>match nth bl i with
   | some (.z t g' _ l)=>match Nat.beq g g' with
     | true=>.s t l
     | false=>.r i g
   | _=>.r i g
 | y=>y
end
section
variable {T:b3} {W w:World} {M0:List Nat} {X:Nat->Prop} {bl:List (aF T.El)} {ρ:List Value}
theorem Js (hm:Mem T W M0 X bl ρ w) {y:aI T.El} {v:Value} (ag:au T (bi X bl ρ w) w ρ bl y v):au T (bi X bl ρ w) w ρ bl (nm bl y) v:=by
 cases y with
 | r i g=>
   simp only [nm]
   split
   · rename_i t g' k l hi
     rw [cU] at hi
     split
     · rename_i ah
       have ah:=Nat.eq_of_beq_eq_true ah
       simp only [au] at ag ⊢
       obtain ⟨_,h,I,aa,aq⟩:=ag
       rw [hi] at aq
       have:=aq ah
       subst this
       exact hm.ok i _ _ hi I
     · exact ag
   · exact ag
 | _=>exact ag
def AO (E:Env) (bl:List (aF E.T.El)) (t:Nat):aI E.T.El->D (aI E.T.El)
 | .b i o=>match nth bl i,lay E.P t with
   | some (.c _ cs),some gF=>.of (kZ cs o gF)
   | _,_=>.no
 | .x t' d o=>match lay E.P t with
   | some gF=>.of (kZ ((E.T.e t').cs d) o gF)
   | none=>.no
 | .e i g k t' j d o=>match nth bl i,lay E.P t with
   | some (.r t2 bB bh l),some gF=>match Nat.beq g bB,Nat.beq k bh with
     | true,true=>.of (kZ ((E.T.e t').cs d) o gF)
     | true,false=>.op (idx l j) fun d'=>.of (kZ ((E.T.e t2).cs d') o gF)
     | _,_=>.no
   | _,_=>.no
 | .w i g o=>match nth bl i,lay E.P t with
   | some (.k _ _ bB cs),some gF=>match Nat.beq g bB with
     | true=>.of (kZ cs o gF)
     | false=>.no
   | _,_=>.no
 | .v9 i g sz q=>match nth bl i,lay E.P t with
   | some (.r t2 bB bh l),some gF=>match Nat.beq g bB && Nat.beq sz (E.T.ty t2).size with
     | true=>.op (idx l q) fun d=>.of (kZ [.e i g bh t2 q d 0] 0 gF)
     | false=>.no
   | _,_=>.no
 | _=>.no
def Ql {El:Nat->Type}:aI El->Option Nat
 | .b i _=>some i
 | .e i _ _ _ _ _ _=>some i
 | .w i _ _=>some i
 | _=>none
def GL (X:Nat->Prop) (bl:List (aF T.El)) (ρ:List Value) (w:World) (k:Nat):Option Nat->Prop
 | none=>bi X bl ρ w k
 | some i=>∃ B h,bl[i]? =some B/\ρ[i]? =some h/\k ∈ bw B h
def CK (P:Program) (t:Nat) (ea:Addr) (us:List Value) (v:Value):Prop:=∀ (op:Oper) (ac:Act) (x:Operand) (w':World),op.op= .load t x->ac.eval x= .pointer (some ea)->eT w' ea us->bd P op ac w' v w'
theorem rp {w:World} {t sz n c:Nat} {A:Option Addr} {xs:List Value} (aA:0 <n) (h:rowIs w t sz (.slice A n c) n xs):∃ g,A=some ⟨g,0,none⟩/\di A=g/\eT w ⟨g,0,none⟩ xs/\ ∀ m:Nat,ah (.slice A m c)= [g]:=by
 have hc:=h.cap
 have h:=h.own aA
 rcases h.2 with ⟨I,aN⟩ | ⟨g,cap,cur,I,_⟩
 · omega
 · simp only [Value.slice.injEq] at I
   obtain ⟨rfl,_,rfl⟩:=I
   refine ⟨g,rfl,rfl,fun j u aC=>?_,fun m=>?_⟩
   · have ij:=h.cells (g:=g) rfl j u aC
     rw [jN] at ij
     exact ij
   · cases c with
     | zero=>omega
     | succ c=>rfl
theorem abN {α:Type} {T:db α} {F:Nat->Prop} {w:World} {g:Nat} {l:List α} {xs:List Value} {j:Int} {d:α} (hc:eT w ⟨g,0,none⟩ xs) (ay:dO T F w xs l) (hi:idx l j=some d):∃ cs,T.rd F w cs d/\eT w ⟨g,j.toNat*T.size,none⟩ cs:=by
 obtain ⟨_,_,aa⟩:=jW hi
 obtain ⟨cs,aq,a'⟩:=Ff T ay aa
 refine ⟨cs,aq,fun q u aQ=>?_⟩
 have:=hc (j.toNat*T.size+q) u (a' q u aQ)
 simpa using this
theorem anG {E:Env} (fx:uu E.T) {W w:World} {M0:List Nat} {X:Nat->Prop} {bl:List (aF E.T.El)} {ρ:List Value} (hm:Mem E.T W M0 X bl ρ w) {t:Nat} {p y:aI E.T.El} {aa5:Value} (aD:au E.T (bi X bl ρ w) w ρ bl p aa5) (h:(AO E bl t p).out y) :
 ∃ ea us v,aa5= .pointer (some ea)/\au E.T (bi X bl ρ w) w ρ bl y v/\eT w ea us/\CK E.P t ea us v/\GL X bl ρ w ea.block (Ql p):=by
 unfold AO at h
 split at h
 · rename_i i o
   split at h
   · rename_i ty cs gF I aa
     rw [cU] at I
     have h:=D.ng h
     simp only [au] at aD
     obtain ⟨g,aw,rfl⟩:=aD
     obtain ⟨g',vs,e1,e2,e3⟩:=hm.ok i _ _ I aw
     simp only [Value.pointer.injEq,Option.some.injEq,Addr.mk.injEq,and_true] at e1
     subst e1
     have hc:eT w ⟨g,0,none⟩ vs:=fun j u aC=>by
      have ah:(a7.dQ g ty vs).ok w:=e2
      simpa using uC ah aC
     obtain ⟨v,us,bf,bh,ca⟩:=AD aa h e3 hc
     refine ⟨⟨g,o,none⟩,us,v,rfl,bf,by simpa using bh,fun op ac x w' ap ad pt=>ca op ac x w' ap (by simpa using ad) (by simpa using pt),_,_,I,aw,by simp [bw,ah]⟩
   · exact h.elim
 · rename_i t' d o
   split at h
   · rename_i gF aa
     have h:=D.ng h
     simp only [au] at aD
     obtain ⟨a,q,cs,rfl,aq,a',c8⟩:=aD
     obtain ⟨v,us,bf,bh,ca⟩:=AD aa h (fx.cells a') c8
     exact ⟨_,us,v,rfl,bf,bh,ca,aq⟩
   · exact h.elim
 · rename_i i g k t' j d o
   split at h
   · rename_i t2 bB bh l gF I aa
     rw [cU] at I
     simp only [au] at aD
     obtain ⟨_,u,hu,hle,ag⟩:=aD
     rw [I] at ag
     obtain ⟨A,c,xs,e1,e2,e3⟩:=hm.ok i _ _ I hu
     subst e1
     split at h
     · rename_i aw ai
       have h:=D.ng h
       obtain ⟨⟨cN,fD,bC,bk,bH,bU,fp⟩,auI,Rn⟩:=ag (Nat.eq_of_beq_eq_true aw)
       obtain ⟨l',b9,cJ⟩:=Rn (Nat.eq_of_beq_eq_true ai)
       simp only [p0,Option.some.injEq,Sigma.mk.injEq] at b9
       obtain ⟨fO,b9⟩:=b9
       subst fO
       have b9:=eq_of_heq b9
       subst b9
       simp only [Value.slice.injEq] at bk
       obtain ⟨rfl,rfl,rfl⟩:=bk
       obtain ⟨dS,rfl,sq,hc,jU⟩:=rp (by have:=(jW cJ).2.1;omega) e2
       obtain ⟨cs,dd,dY⟩:=abN hc e3 cJ
       obtain ⟨v,us,bf,yS,ca⟩:=AD aa h (fx.cells dd) dY
       refine ⟨_,us,v,fp,bf,?_,?_,_,_,I,hu,by simp [bw,jU,sq,di]⟩
       · simpa [iv,di] using yS
       · simpa [iv,di,CK] using ca
     · rename_i aw ai
       obtain ⟨d',cJ,h⟩:=h
       have h:=D.ng h
       obtain ⟨⟨cN,fD,bC,bk,bH,bU,fp⟩,_,_⟩:=ag (Nat.eq_of_beq_eq_true aw)
       simp only [Value.slice.injEq] at bk
       obtain ⟨rfl,rfl,rfl⟩:=bk
       obtain ⟨dS,rfl,sq,hc,jU⟩:=rp (by have:=(jW cJ).2.1;omega) e2
       obtain ⟨cs,dd,dY⟩:=abN hc e3 cJ
       obtain ⟨v,us,bf,yS,ca⟩:=AD aa h (fx.cells dd) dY
       refine ⟨_,us,v,fp,bf,?_,?_,_,_,I,hu,by simp [bw,jU,sq,di]⟩
       · simpa [iv,di] using yS
       · simpa [iv,di,CK] using ca
     · exact h.elim
   · exact h.elim
 · rename_i i g o
   split at h
   · rename_i t2 sz bB cs gF I aa
     rw [cU] at I
     split at h
     · rename_i aw
       have h:=D.ng h
       simp only [au] at aD
       obtain ⟨_,u,hu,hle,ag⟩:=aD
       rw [I] at ag
       obtain ⟨A,n,c,xs,e1,e2,e3⟩:=hm.ok i _ _ I hu
       subst e1
       obtain ⟨cN,fD,bC,bk,bH,fp⟩:=ag (Nat.eq_of_beq_eq_true aw)
       simp only [Value.slice.injEq] at bk
       obtain ⟨rfl,rfl,rfl⟩:=bk
       obtain ⟨dS,rfl,sq,hc,jU⟩:=rp bH e2
       obtain ⟨v,us,bf,yS,ca⟩:=AD aa h e3 hc
       refine ⟨_,us,v,fp,bf,?_,?_,_,_,I,hu,by simp [bw,jU,sq,di]⟩
       · simpa [di] using yS
       · simpa [di,CK] using ca
     · exact h.elim
   · exact h.elim
 · rename_i i g sz q
   split at h
   · rename_i t2 bB bh l gF I aa
     rw [cU] at I
     split at h
     · rename_i ah
       simp only [Bool.and_eq_true] at ah
       have aw:=Nat.eq_of_beq_eq_true ah.1
       have aj:=Nat.eq_of_beq_eq_true ah.2
       obtain ⟨d,cJ,h⟩:=h
       have h:=D.ng h
       simp only [au] at aD
       obtain ⟨a,o,aaY,rfl,az,⟨gM,u,hu,hle,ag⟩,hc⟩:=aD
       have Bb:=hle
       rw [I] at ag Bb
       obtain ⟨A,n,c,bk,bH,bU,fp⟩:=ag aw
       have ay:a3 E.T (bi X bl ρ w) w ρ bl [.e i g bh t2 q d 0] [aaY]:=by
        simp only [a3,au]
        refine ⟨aaY,[],rfl,⟨gM,u,hu,hle,fun _=>⟨⟨A,n,c,bk,bH,bU,?_⟩,by rw [I];exact Nat.le_refl _,fun _=>⟨l,by rw [I];rfl,cJ⟩⟩⟩,rfl⟩
        rw [I,fp,aj];rfl
       obtain ⟨v,us,bf,yS,ca⟩:=AD aa h ay hc
       exact ⟨_,us,v,rfl,bf,by simpa using yS,by simpa [CK] using ca,az⟩
     · exact h.elim
   · exact h.elim
 · exact h.elim
end
end bz
namespace bz
open Go Go.RowKit av J
def cellsOf {El:Nat->Type}:aI El->List (aI El)
 | .a l=>l
 | .p (.agg ⟨vs⟩)=>vs.map .p
 | y=>[y]
def fm {α:Type}:List α->Nat->List α->List α
 | l,0,cs=>cs++l.drop cs.length
 | [],_+ 1,_=>[]
 | u::l,n+ 1,cs=>u::fm l n cs
theorem s6 {α:Type}:∀ (l:List α) (n:Nat) (cs:List α),n+cs.length<=l.length->fm l n cs=l.take n++cs++l.drop (n+cs.length)
 | l,0,cs,_=>by simp [fm]
 | [],n+ 1,cs,h=>by simp at h
 | u::l,n+ 1,cs,h=>by
   have:=s6 l n cs (by simp at h;omega)
   simp only [fm,this,List.take_succ_cons,List.cons_append]
   have e:n+ 1 +cs.length=(n+cs.length)+ 1 :=by omega
   rw [e,List.drop_succ_cons]
theorem Qj {α:Type} {l:List α} {n:Nat} {cs:List α} (h:n+cs.length<=l.length):(fm l n cs).length=l.length:=by
 rw [s6 l n cs h];simp;omega
theorem XO (off:Nat):∀ (cs:List Value) (k:Nat) (l:Array Value),off+k+cs.length<=l.size->((cs.zipIdx k).foldl (fun (a:Array Value) (x:Value × Nat)=>a.setIfInBounds (off+x.2) x.1) l).toList=fm l.toList (off+k) cs
 | [],k,l,h=>by
   rw [s6 _ _ _ (by simpa using h)]
   simp
 | c::r,k,l,h=>by
   simp only [List.zipIdx_cons,List.foldl_cons]
   have h':off+(k+ 1)+r.length<=(l.setIfInBounds (off+k) c).size:=by simp at h ⊢;omega
   rw [XO off r (k+ 1) _ h',s6 _ _ _ (by simpa using h'),s6 _ _ _ (by simpa using h)]
   have ai:off+k <l.toList.length:=by simp at h ⊢;omega
   simp only [Array.toList_setIfInBounds,List.length_cons]
   apply List.ext_getElem?
   intro i
   simp only [List.getElem?_append,List.length_take,List.length_set,List.getElem?_take,List.getElem?_set,List.getElem?_drop,List.length_append,List.length_cons]
   have e1:min (off+(k+ 1)) l.toList.length=off+k+ 1 :=by simp at h ai ⊢;omega
   have e2:min (off+k) l.toList.length=off+k:=by omega
   rw [e1,e2]
   by_cases c1:i <off+k
   · simp [c1,show i <off+k+ 1 by omega,show i <off+k+ 1 +r.length by omega,show i <off+k+(r.length+ 1) by omega,show i <off+(k+ 1) by omega,show ¬ off+k=i by omega]
   · by_cases c2:i=off+k
     · subst c2
       simp only [show off+k <off+k+ 1 by omega,show off+k <off+k+ 1 +r.length by omega,show off+k <off+k+(r.length+ 1) by omega,show off+k <off+(k+ 1) by omega,if_true,ai,Nat.lt_irrefl,if_false,Nat.sub_self,List.getElem?_cons_zero]
     · by_cases c3:i <off+k+ 1 +r.length
       · simp only [show ¬ i <off+k+ 1 by omega,c3,show i <off+k+(r.length+ 1) by omega,c1,if_false,if_true]
         have:i - (off+k)=(i - (off+k+ 1))+ 1 :=by omega
         rw [this,List.getElem?_cons_succ]
       · simp only [show ¬ i <off+k+ 1 by omega,c3,show ¬ i <off+k+(r.length+ 1) by omega,if_false,show ¬ (off+k=off+(k+ 1)+r.length+(i - (off+k+ 1 +r.length))) by omega]
         congr 1
         omega
def sh {El:Nat->Type} (pl:Nat->Option (Nat × Nat)):List (aI El)->List (Nat × aI El)->Option (List (aI El))
 | cs,[]=>some cs
 | cs,(i,y)::r=>match pl i with
   | some (off,size)=>match Nat.beq (cellsOf y).length size && Nat.ble (off+(cellsOf y).length) cs.length with
     | true=>sh pl (fm cs off (cellsOf y)) r
     | false=>none
   | none=>none
section
variable {T:b3} {F:Nat->Prop} {w:World} {ρ:List Value} {bl:List (aF T.El)}
theorem pZ:∀ (vs:List Value),a3 T F w ρ bl (vs.map .p) vs
 | []=>by simp [a3]
 | v::r=>by simp only [List.map_cons,a3];exact ⟨v,r,rfl,rfl,pZ r⟩
theorem j5 {z:aI T.El} {u:Value} (aj:au T F w ρ bl z u):a3 T F w ρ bl [z] [u]:=by
 simp only [a3]
 exact ⟨u,[],rfl,aj,rfl⟩
theorem Hd {v:Value} (h:mf v):v.cells.toList= [v]:=by cases v <;> simp [mf] at h;rfl
theorem Hc {v:Value} (h:sL v):v.cells.toList= [v]:=by cases v <;> simp [sL] at h;rfl
theorem mM {y:aI T.El} {v:Value} (h:au T F w ρ bl y v):a3 T F w ρ bl (cellsOf y) v.cells.toList:=by
 cases y with
 | a l=>simp only [au] at h;obtain ⟨vs,rfl,h⟩:=h;exact h
 | p u=>
   simp only [au] at h
   subst h
   cases v with
   | agg cs=>obtain ⟨vs⟩:=cs;exact pZ vs
   | _=>exact j5 (by simp [au])
 | b i o=>have h':=h;simp only [au] at h';obtain ⟨g,_,rfl⟩:=h';exact j5 h
 | x t d o=>have h':=h;simp only [au] at h';obtain ⟨a,q,cs,rfl,_⟩:=h';exact j5 h
 | s t l=>have h':=h;simp only [au] at h';obtain ⟨A,c,e⟩:=kJ _ h';subst e;exact j5 h
 | q t l=>have h':=h;simp only [au] at h';obtain ⟨_,A,rfl⟩:=h';exact j5 h
 | r i g=>have h':=h;simp only [au] at h';rw [Hd h'.1];exact j5 h
 | v i g lo hi=>have h':=h;simp only [au] at h';rw [Hd h'.1];exact j5 h
 | e i g k t j d o=>have h':=h;simp only [au] at h';rw [Hc h'.1];exact j5 h
 | w i g o=>have h':=h;simp only [au] at h';rw [Hc h'.1];exact j5 h
 | m i=>have h':=h;simp only [au] at h';obtain ⟨g,_,rfl⟩:=h';exact j5 h
 | n _ _ _=>have h':=h;simp only [au] at h';obtain ⟨g,rfl,_⟩:=h';exact j5 h
 | f fn cs=>have h':=h;simp only [au] at h';obtain ⟨g,rfl,_⟩:=h';exact j5 h
 | h fn us=>have h':=h;simp only [au] at h';obtain ⟨g,rfl,_⟩:=h';exact j5 h
 | u l=>have h':=h;simp only [au] at h';obtain ⟨g,rfl,_⟩:=h';exact j5 h
 | i t z=>have h':=h;simp only [au] at h';obtain ⟨g,rfl,_⟩:=h';exact j5 h
 | pp i g sz ec=>have h':=h;simp only [au] at h';obtain ⟨_,_,rfl,_⟩:=h';exact j5 h
 | v9 i g sz q=>have h':=h;simp only [au] at h';obtain ⟨_,_,_,rfl,_⟩:=h';exact j5 h
theorem a3.lay {l cs:List (aI T.El)} {vs us:List Value} {n:Nat} (h:a3 T F w ρ bl l vs) (h':a3 T F w ρ bl cs us) (hle:n+cs.length<=l.length):a3 T F w ρ bl (fm l n cs) (fm vs n us):=by
 have e1:=h.len
 have e2:=h'.len
 rw [s6 _ _ _ hle,s6 _ _ _ (by omega),e2]
 exact a3.bR (a3.bR (a3.take n h) h') (a3.drop _ h)
def o2 (T:b3) (F:Nat->Prop) (w:World) (ρ:List Value) (bl:List (aF T.El)):List (Nat × aI T.El)->List (Nat × Value)->Prop
 | [],vs=>vs= []
 | (i,y)::r,vs=>∃ v ws,vs=(i,v)::ws/\au T F w ρ bl y v/\o2 T F w ρ bl r ws
theorem Ng {pl:Nat->Option (Nat × Nat)}:∀ {ps:List (Nat × aI T.El)} {vs:List (Nat × Value)} {cs out:List (aI T.El)} {us:List Value},a3 T F w ρ bl cs us->o2 T F w ρ bl ps vs->sh pl cs ps=some out-> ∃ os,Instr.fill pl ⟨us⟩ vs=some ⟨os⟩/\a3 T F w ρ bl out os
 | [],vs,cs,out,us,h,aD,he=>by
   simp only [o2] at aD
   subst aD
   simp only [sh,Option.some.injEq] at he
   subst he
   exact ⟨us,rfl,h⟩
 | (i,y)::r,vs,cs,out,us,h,aD,he=>by
   simp only [o2] at aD
   obtain ⟨v,ws,rfl,hy,ay⟩:=aD
   simp only [sh] at he
   split at he
   · rename_i off size Ip
     split at he
     · rename_i ah
       simp only [Bool.and_eq_true] at ah
       have e1:=Nat.eq_of_beq_eq_true ah.1
       have e2:=Nat.le_of_ble_eq_true ah.2
       have hc:=mM hy
       have l1:=hc.len
       have cj:=h.len
       have jp:v.cells.size=(cellsOf y).length:=by rw [<-l1];simp
       obtain ⟨os,I,aa⟩:=Ng (h.lay hc e2) ay he
       refine ⟨os,?_,aa⟩
       simp only [Instr.fill,Ip]
       rw [if_neg (by simp only [Bool.or_eq_true,decide_eq_true_eq,bne_iff_ne,not_or];simp only [List.size_toArray];omega)]
       have aj:v.cells.zipIdx.toList=v.cells.toList.zipIdx:=by simp
       rw [<-Array.foldl_toList,aj]
       have:=XO off v.cells.toList 0 ⟨us⟩ (by simp;omega)
       simp only [Nat.add_zero] at this
       rw [<-I]
       congr 1
       rw [<-Array.toList_inj]
       exact this
     · cases he
   · cases he
end
def E3 (P:Program):List Go.Field->Option (List (Nat × Nat))
 | []=>some []
 | f::r=>match P.info? f.type,E3 P r with
   | some i,some l=>some ((f.offset,i.size)::l)
   | _,_=>none
theorem aaT {P:Program} {w:World}:∀ {cq:List Go.Field} {l:List (Nat × Nat)},E3 P cq=some l->(cq.mapM fun (f:Go.Field)=>(do pure (f.offset,<-Go.sizeOf f.type):Sem (Nat × Nat))).run P w= .ok l w
 | [],l,h=>by simp only [E3,Option.some.injEq] at h;subst h;rfl
 | f::r,l,h=>by
   simp only [E3] at h
   split at h
   · rename_i i l' I aa
     simp only [Option.some.injEq] at h
     subst h
     rw [List.mapM_cons]
     simp only [Sem.run_bind,run_sizeOf I,aaT aa,Result.andThen_ok,Sem.run_pure]
   · cases h
def z4 (P:Program) (t:TypeId):Option (List Value):=match P.info? t with
 | some i=>match i.zero with
   | some z=>some z.cells.toList
   | none=>none
 | none=>none
theorem Gu {P:Program} {t:TypeId} {l:List Value} (h:z4 P t=some l):∃ z,(∀ w,(zeroValue t).run P w= .ok z w)/\z.cells=⟨l⟩:=by
 unfold z4 at h
 split at h
 · rename_i i I
   split at h
   · rename_i z aa
     simp only [Option.some.injEq] at h
     subst h
     refine ⟨z,fun w=>?_,by simp⟩
     simp only [zeroValue,typeInfo,Sem.run_bind]
     simp [go_sem,I,aa]
   · cases h
 · cases h
def MU (E:Env) (t:Nat) (ps:List (Nat × aI E.T.El)):D (aI E.T.El):=match E.P.underlying t,z4 E.P t with
 | some (.struct cq),some z=>match E3 E.P cq.toList with
   | some pl=>match sh (fun i=>nth pl i) (z.map .p) ps with
     | some cs=>.ok (.a cs)
     | none=>.no
   | none=>.no
 | _,_=>.no
section
variable {E:Env} {F:Nat->Prop} {w:World} {ρ:List Value} {bl:List (aF E.T.El)}
theorem anu {t:Nat} {ps:List (Nat × aI E.T.El)} {vs:List (Nat × Value)} {y:aI E.T.El} (aD:o2 E.T F w ρ bl ps vs) (h:(MU E t ps).out y) :
 ∃ v,au E.T F w ρ bl y v/\ ∀ (o:Oper) (a:Act) (xs:List (Nat × Operand)) (w':World),o.op= .build t xs.toArray->xs.map (fun p=>(p.1,a.eval p.2))=vs->bd E.P o a w' v w':=by
 unfold MU at h
 split at h
 · rename_i cq z I aa
   split at h
   · rename_i pl aq
     split at h
     · rename_i cs a'
       have h:aI.a cs=y:=h
       subst h
       obtain ⟨eB,aj,PK⟩:=Gu aa
       obtain ⟨os,c8,gH⟩:=Ng (pZ z) aD a'
       refine ⟨.agg ⟨os⟩,by simp only [au];exact ⟨os,rfl,gH⟩,fun o a xs w' ap ad=>?_⟩
       have apo:(fun i=>nth pl i)=(fun i=>(⟨pl⟩:Array (Nat × Nat))[i]?):=by funext i;rw [cU];simp
       have Ip:(cq.mapM fun (f:Go.Field)=>(do pure (f.offset,<-Go.sizeOf f.type):Sem (Nat × Nat))).run E.P w'= .ok ⟨pl⟩ w':=by
        have hY:=aaT (w:=w') aq
        have e:cq.mapM (fun (f:Go.Field)=>(do pure (f.offset,<-Go.sizeOf f.type):Sem (Nat × Nat)))=List.toArray <$> cq.toList.mapM (fun (f:Go.Field)=>(do pure (f.offset,<-Go.sizeOf f.type):Sem (Nat × Nat))):=by
         rw [<-List.mapM_toArray]
        rw [e,map_eq_pure_bind,Sem.run_bind,hY]
        rfl
       rw [apo] at c8
       simp only [bd,execOp,ap,Instr.build,Sem.run_bind,aj,Result.andThen_ok,run_underlying I,Ip,List.map_toArray,ad,PK,c8]
       rfl
     · exact h.elim
   · exact h.elim
 · exact h.elim
end
end bz
namespace av
open Go Go.RowKit J
section
variable {P:Program} {ops:Array Oper} {Q:Exit->Act->World->Prop} {a:Act} {w:World} {rest:List Oper} {o:Oper} {n:cI} {d:Nat} {l:List (Nat × Value)}
 {W:World} {M0 X:List Nat} {E:List a7} {D:List bt}
def a7.nil:a7:=⟨[],fun _=>True,fun _ _ _ _=>trivial⟩
theorem bn.HB {x:a7} {w':World} (hm:bn W M0 X w E D) (i:Nat) (hi:E[i]? =some x) (ag:bp [] w w'):x.ok w':=
 x.law w w' (fun k ai=>ag.block k (hm.lt k (List.mem_flatMap.2 ⟨x,List.mem_of_getElem? hi,ai⟩)).1 (by simp)) (hm.e i hi)
theorem aBJ {t:TypeId} {x:Operand} {lo hi:Option Operand} {p r:List UInt8} {i j:Int} (aJ:P.underlying t=some .string) (ap:o.op= .slice t x lo hi none) (ad:a.eval x=cg p)
 (m0:(lo=none/\i= 0)\/ ∃ z,lo=some z/\a.eval z= .int .i64 i) (jE:(hi=none/\j=p.length)\/ ∃ z,hi=some z/\a.eval z= .int .i64 j) (ay:cut p i j=some r):bd P o a w (cg r) w:=by
 obtain ⟨⟨I,aa,aq⟩,rfl⟩:=Mw ay
 have cX:(⟨p.toArray⟩:ByteArray).size=p.length:=by simp [ByteArray.size]
 have bX:∀ code,(Instr.sliceBound (.int .i64 j) (⟨p.toArray⟩:ByteArray).size code).run P w= .ok j.toNat w:=fun code=>wa rfl (by rw [cX];omega)
 rw [cX] at bX
 have eb:∀ code,(Instr.sliceBound (.int .i64 i) j.toNat code).run P w= .ok i.toNat w:=fun code=>wa rfl (by omega)
 have gk:∀ code,(Instr.sliceBound (.int .i64 i) (⟨p.toArray⟩:ByteArray).size code).run P w= .ok i.toNat w:=fun code=>wa rfl (by rw [cX];omega)
 rw [cX] at gk
 have Iw:(⟨p.toArray⟩:ByteArray).extract i.toNat j.toNat=⟨((p.take j.toNat).drop i.toNat).toArray⟩:=by
  apply ByteArray.ext
  simp [ByteArray.data_extract,List.drop_take]
 have key:∀ EI cL:Option Value,((EI=none/\i= 0)\/EI=some (.int .i64 i))->((cL=none/\j=p.length)\/cL=some (.int .i64 j)) ->
  (Instr.slice t (.string ⟨p.toArray⟩) EI cL none).run P w= .ok (cg ((p.take j.toNat).drop i.toNat)) w:=by
  intro EI cL ak bu
  have ah:∃ m,(Instr.sliceBounds false (⟨p.toArray⟩:ByteArray).size (⟨p.toArray⟩:ByteArray).size EI cL none).run P w= .ok (i.toNat,j.toNat,m) w:=by
   rcases ak with ⟨rfl,rfl⟩ | rfl <;> rcases bu with ⟨rfl,aC⟩ | rfl
   · exact ⟨_,by simp [Instr.sliceBounds,aC,cX];rfl⟩
   · exact ⟨_,by simp [Instr.sliceBounds,cX,bX];rfl⟩
   · exact ⟨_,by simp [Instr.sliceBounds,gk,aC,cX];rfl⟩
   · exact ⟨_,by simp [Instr.sliceBounds,cX,bX,eb];rfl⟩
  obtain ⟨m,ah⟩:=ah
  simp only [Instr.slice,Sem.run_bind,run_underlying aJ,Result.andThen_ok,Option.isSome_none,Bool.false_eq_true,if_false,ah,Sem.run_pure,Iw,cg]
 have m1:=key (lo.map a.eval) (hi.map a.eval) (m0.imp (fun h=>⟨by rw [h.1];rfl,h.2⟩) (fun ⟨z,bk,bH⟩=>by rw [bk,Option.map_some,bH])) (jE.imp (fun h=>⟨by rw [h.1];rfl,h.2⟩) (fun ⟨z,bk,bH⟩=>by rw [bk,Option.map_some,bH]))
 simp only [bd,execOp,ap,ad,cg,Instr.sliceAt,Sem.run_bind,run_underlying aJ,Result.andThen_ok,Option.map_none,m1]
 rfl
theorem aBP {t:TypeId} {x:Operand} {v:Value} (hc:P.concrete t=true) (ap:o.op= .makeInterface t x) (ad:a.eval x=v):bd P o a w (.iface t v) w:=by
 simp only [bd,execOp,ap,ad]
 simp [go_sem,run_makeInterface _ _ _ hc]
end
end av
namespace bz
open Go Go.RowKit av J
abbrev jK (P:Program) (o:Oper) (a:Act) (v:Value):Prop:=∀ w,bd P o a w v w
section
variable {E:Env} {W w:World} {M0:List Nat} {X:Nat->Prop} {bl:List (aF E.T.El)} {ρ:List Value}
def Rf (E:Env) (x y:Operand) (b:Bool):aI E.T.El->aI E.T.El->D (aI E.T.El)
 | .p u,.p v=>match JE x y b u v with
   | some r=>.ok (.p r)
   | none=>.nV b (.ok (.p u)) (.ok (.p v))
 | u,v=>.nV b (.ok u) (.ok v)
theorem aue {F:Nat->Prop} {a:Act} {x y:Operand} {b:Bool} {u v z:aI E.T.El} (h:(Rf E x y b u v).out z) (ad:b=true->au E.T F w ρ bl u (a.eval x)) (hy:b=false->au E.T F w ρ bl v (a.eval y)) :
 ∃ r,(if b then a.eval x else a.eval y)=r/\au E.T F w ρ bl z r:=by
 have key:(D.nV b (.ok u) (.ok v)).out z-> ∃ r,(if b then a.eval x else a.eval y)=r/\au E.T F w ρ bl z r:=fun h=>by
  rcases h with ⟨ah,h⟩ | ⟨ah,h⟩
  · have h:u=z:=h
    subst h;subst ah
    exact ⟨_,rfl,by simpa using ad rfl⟩
  · have h:v=z:=h
    subst h;subst ah
    exact ⟨_,rfl,by simpa using hy rfl⟩
 unfold Rf at h
 split at h
 · rename_i u v
   split at h
   · rename_i r ay
     have h:aI.p r=z:=h
     subst h
     refine ⟨r,aaP (a:=a) ay (fun ah=>?_) (fun ah=>?_),by simp [au]⟩
     · simpa [au] using ad ah
     · simpa [au] using hy ah
   · exact key h
 · exact key h
theorem aB2 {P:Program} {o:Oper} {a:Act} {c x y:Operand} {b:Bool} {r:Value} (ap:o.op= .pick c x y) (hc:a.eval c= .bool b) (h:(if b then a.eval x else a.eval y)=r):bd P o a w r w:=by
 cases b with
 | true=>exact LH ap hc (by simpa using h)
 | false=>exact LG ap hc (by simpa using h)
def aq5 (P:Program) (t:TypeId):Bool:=match P.underlying t with
 | some (.struct _)=>true
 | _=>false
def jX {El:Nat->Type}:aI El->Bool
 | .a _=>true
 | .p (.agg _)=>true
 | _=>false
def Hr (E:Env) (t:Nat) (b:Bool) (u v:aI E.T.El):D (aI E.T.El):=match jX u && jX v with
 | true=>match (E.T.e t).eq,(E.T.e t).gU (cellsOf u),(E.T.e t).gU (cellsOf v) with
   | some f,some d,some e=>.ok (.p (.bool (cond b (f d e) (!f d e))))
   | _,_,_=>.no
 | false=>.no
def Zp:Value->Bool
 | .pointer none=>true
 | _=>false
def IH {El:Nat->Type}:aI El->Bool
 | .b _ _=>true
 | .x _ _ _=>true
 | .e _ _ _ _ _ _ _=>true
 | .w _ _ _=>true
 | _=>false
def Rj (P:Program) (t:TypeId):Bool:=match P.underlying t with
 | some (.pointer _)=>true
 | _=>false
def zl (op:BinOp) (b:Bool):Option Bool:=match op with
 | .eql=>some b
 | .neq=>some (!b)
 | _=>none
def Wg (op:BinOp) (m n:Int):Option Value:=match op with
 | .quo=>some (.int .i64 (aE (m.tdiv n)))
 | .rem=>some (.int .i64 (m.tmod n))
 | _=>none
def MT (E:Env) (t:Nat) (op:BinOp) (gL:Bool) (u v:aI E.T.El):D (aI E.T.El):=match aq5 E.P t,op with
 | true,.eql=>Hr E t true u v
 | true,.neq=>Hr E t false u v
 | _,_=>match u,v with
   | .p x,.p y=>match bin (jH (E.P.underlying t)) gL op x y with
     | some r=>.ok (.p r)
     | none=>match x,y with
       | .int .i64 m,.int .i64 n=>match Wg op m n with
         | some r=>.op (tr (!decide (n= 0))) fun _=>.ok (.p r)
         | none=>.no
       | .int .u64 m,.int _ (.ofNat n)=>match op,Nat.ble n 64 with
         | .shr,true=>.ok (.p (.int .u64 (tx m n)))
         | _,_=>.no
       | _,_=>.no
   | u,.p y=>match Rj E.P t && IH u && Zp y,zl op false with
     | true,some b=>.ok (.p (.bool b))
     | _,_=>.no
   | _,_=>.no
theorem aB3 {P:Program} {o:Oper} {a:Act} {t t':TypeId} {x y:Operand} {p:Addr} {op:BinOp} {b:Bool} (aJ:Rj P t=true) (ah:zl op false=some b) (ap:o.op= .binOp op t x y t') (ad:a.eval x= .pointer (some p)) (hy:a.eval y= .pointer none):bd P o a w (.bool b) w:=by
 have hu:∃ e,P.underlying t=some (.pointer e):=by
  unfold Rj at aJ
  split at aJ
  · rename_i e h;exact ⟨e,h⟩
  · cases aJ
 obtain ⟨e,hu⟩:=hu
 have h:∀ d:Nat,(Op.equalIn (d+ 1) t (.pointer (some p)) (.pointer none)).run P w= .ok false w:=fun d=>by
  simp [Op.equalIn,run_underlying hu]
 cases op <;> simp only [zl,Option.some.injEq,reduceCtorEq] at ah <;> subst ah
 · have aa:(binOp .eql t (.pointer (some p)) (.pointer none)).run P w= .ok (.bool false) w:=by
    simp only [binOp]
    simp [Op.equal,Op.maxDepth,h 9999]
   simp only [bd,execOp,ap,ad,hy]
   simp [go_sem,aa]
 · have aa:(binOp .neq t (.pointer (some p)) (.pointer none)).run P w= .ok (.bool true) w:=by
    simp only [binOp]
    simp [Op.equal,Op.maxDepth,h 9999]
   simp only [bd,execOp,ap,ad,hy]
   simp [go_sem,aa]
theorem Zq {F:Nat->Prop} {y:aI E.T.El} {v:Value} (h:IH y=true) (ag:au E.T F w ρ bl y v):∃ p,v= .pointer (some p):=by
 cases y <;> simp only [IH,reduceCtorEq] at h
 · simp only [au] at ag;obtain ⟨g,_,rfl⟩:=ag;exact ⟨_,rfl⟩
 · simp only [au] at ag;obtain ⟨_,_,_,rfl,_⟩:=ag;exact ⟨_,rfl⟩
 · simp only [au] at ag;cases v <;> simp [sL] at ag;rename_i p;cases p <;> simp at ag;exact ⟨_,rfl⟩
 · simp only [au] at ag;cases v <;> simp [sL] at ag;rename_i p;cases p <;> simp at ag;exact ⟨_,rfl⟩
theorem Es {F:Nat->Prop} {y:aI E.T.El} {v:Value} (h:jX y=true) (ag:au E.T F w ρ bl y v):v= .agg ⟨v.cells.toList⟩:=by
 cases y <;> simp only [jX,reduceCtorEq] at h
 · rename_i u
   simp only [au] at ag
   subst ag
   cases v <;> simp only [jX,reduceCtorEq] at h
   simp [Value.cells]
 · simp only [au] at ag
   obtain ⟨vs,rfl,_⟩:=ag
   simp [Value.cells]
theorem ant (a5:dn E) {F:Nat->Prop} {o:Oper} {a:Act} {t:Nat} {op:BinOp} {gL:Bool} {x y:Operand} {t':TypeId} {u v z:aI E.T.El} (h:(MT E t op gL u v).out z) (ap:o.op= .binOp op t x y t') (aj:gL=true-> ∀ k n,a.eval y= .int k n->n≠ 0)
 (ad:au E.T F w ρ bl u (a.eval x)) (hy:au E.T F w ρ bl v (a.eval y)):∃ r,jK E.P o a r/\au E.T F w ρ bl z r:=by
 have gn:∀ {b:Bool},op=cond b .eql .neq->(Hr E t b u v).out z-> ∃ r,jK E.P o a r/\au E.T F w ρ bl z r:=fun {b} ah h=>by
  unfold Hr at h
  split at h
  · rename_i aw
    simp only [Bool.and_eq_true] at aw
    split at h
    · rename_i f d e I aa aq
      have h:aI.p (.bool (cond b (f d e) (!f d e)))=z:=h
      subst h
      have ao7:=a5.tb.gU _ _ _ aa _ _ _ _ _ (mM ad)
      have ao8:=a5.tb.gU _ _ _ aq _ _ _ _ _ (mM hy)
      exact ⟨.bool (cond b (f d e) (!f d e)),fun w'=>a5.eq t f I _ _ _ _ d e ao7 ao8 o a x y t' b (by rw [ap,ah]) (Es aw.1 ad) (Es aw.2 hy) w',by simp only [au]⟩
    · exact h.elim
  · exact h.elim
 unfold MT at h
 split at h
 · exact gn (b:=true) rfl h
 · exact gn (b:=false) rfl h
 · split at h
   · rename_i p q
     simp only [au] at ad hy
     split at h
     · rename_i r ay
       have h:aI.p r=z:=h
       subst h
       exact ⟨r,fun w'=>VB (fun k ai=>sN ai) aj ay ap ad hy,by simp only [au]⟩
     · split at h
       · rename_i m n
         split at h
         · rename_i r ay
           obtain ⟨b,I,aa⟩:=h
           have aa:aI.p r=z:=aa
           subst aa
           have aA:=QU I
           refine ⟨r,fun w'=>?_,by simp only [au]⟩
           unfold Wg at ay
           split at ay
           · simp only [Option.some.injEq] at ay;subst ay;exact agN ap ad hy aA
           · simp only [Option.some.injEq] at ay;subst ay;exact agO ap ad hy aA
           · cases ay
         · exact h.elim
       · rename_i m k n _
         split at h
         · rename_i ah _
           have h:aI.p (.int .u64 (tx m n))=z:=h
           subst h
           exact ⟨_,fun w'=>aB5 (by assumption) ap ad hy,by simp only [au]⟩
         · exact h.elim
       · exact h.elim
   · rename_i q _
     split at h
     · rename_i b I aa
       have h:aI.p (.bool b)=z:=h
       subst h
       simp only [Bool.and_eq_true] at I
       simp only [au] at hy
       obtain ⟨p,aD⟩:=Zq I.1.2 ad
       have aQ:q= .pointer none:=by
        cases q <;> simp only [Zp,reduceCtorEq,and_false] at I
        rename_i rh
        cases rh <;> simp at I ⊢
       exact ⟨_,fun w'=>aB3 I.1.1 aa ap aD (by rw [hy,aQ]),by simp only [au]⟩
     · exact h.elim
   · exact h.elim
end
end bz
namespace bz
open Go Go.RowKit av J
def mv (P:Program) (t:TypeId):Option (Nat × Nat):=match P.underlying t with
 | some (.slice e)=>match P.info? e with
   | some i=>some (e,i.size)
   | none=>none
 | _=>none
theorem p2 {P:Program} {t e n:Nat} (h:mv P t=some (e,n)):P.underlying t=some (.slice e)/\ ∀ w,(Go.sizeOf e).run P w= .ok n w:=by
 unfold mv at h
 split at h
 · rename_i e' I
   split at h
   · rename_i i aa
     simp only [Option.some.injEq,Prod.mk.injEq] at h
     obtain ⟨rfl,rfl⟩:=h
     exact ⟨I,run_sizeOf aa⟩
   · cases h
 · cases h
def MZ (E:Env) (bl:List (aF E.T.El)) (t:Nat):aI E.T.El->aI E.T.El->D (aI E.T.El)
 | .s t' l,.p (.int .i64 j)=>match mv E.P t with
   | some (_,n)=>match Nat.beq n (E.T.ty t').size with
     | true=>.op (idx l j) fun d=>.ok (.x t' d 0)
     | false=>.no
   | none=>.no
 | .q t' l,.p (.int .i64 j)=>match mv E.P t with
   | some (_,n)=>match Nat.beq n (E.T.ty t').size with
     | true=>.op (idx l j) fun d=>.ok (.x t' d 0)
     | false=>.no
   | none=>.no
 | .r i g,.p (.int .i64 j)=>match mv E.P t,nth bl i with
   | some (_,n),some (.r t' bB k l)=>match Nat.beq g bB && Nat.beq n (E.T.ty t').size with
     | true=>.op (idx l j) fun d=>.ok (.e i g k t' j d 0)
     | false=>.no
   | some (_,n),some (.k _ sz bB cs)=>match Nat.beq g bB && Nat.beq n sz && decide (0 <=j) && Nat.ble ((j.toNat+ 1)*sz) cs.length && Nat.blt 0 sz with
     | true=>.ok (.w i g (j.toNat*sz))
     | false=>.no
   | _,_=>.no
 | .v i g lo hi,.p (.int .i64 j)=>match mv E.P t,nth bl i with
   | some (_,n),some (.r t' bB k l)=>match Nat.beq g bB && Nat.beq n (E.T.ty t').size with
     | true=>.op (idx ((l.take hi.toNat).drop lo.toNat) j) fun d=>.ok (.e i g k t' (lo+j) d 0)
     | false=>.no
   | _,_=>.no
 | .pp i g sz ec,.p (.int .i64 j)=>match mv E.P t with
   | some (_,n)=>match Nat.beq n 1 with
     | true=>.op (idx ec j) fun q=>.ok (.v9 i g sz q)
     | false=>.no
   | none=>.no
 | _,_=>.no
theorem aqR {α:Type} {l:List α} {lo hi j:Int} {d:α} (aN:0 <=lo) (I:hi<=l.length) (h:idx ((l.take hi.toNat).drop lo.toNat) j=some d):idx l (lo+j)=some d/\ 0 <=j/\lo+j <hi:=by
 obtain ⟨a,b,c⟩:=jW h
 simp only [List.length_drop,List.length_take] at b
 rw [List.getElem?_drop,List.getElem?_take] at c
 split at c
 · refine ⟨?_,a,by omega⟩
   unfold idx
   rw [if_pos (by omega),show (lo+j).toNat=lo.toNat+j.toNat by omega]
   exact c
 · cases c
section
variable {E:Env} {W w:World} {M0:List Nat} {X:Nat->Prop} {bl:List (aF E.T.El)} {ρ:List Value}
theorem B1 {t sz n c:Nat} {A:Option Addr} {xs:List Value} (h:rowIs w t sz (.slice A n c) n xs) (aA:0 <n):∃ g,A=some ⟨g,0,none⟩:=h.cap.2.2.2 (by have:=h.cap.1;omega)
theorem J8 {t sz n c:Nat} {A:Option Addr} {xs:List Value} (h:rowIs w t sz (.slice A n c) n xs):n<=c:=h.cap.1
theorem Xt {F:Nat->Prop} {t':Nat} {l:List (E.T.El t')} {o:Oper} {a:Act} {t e n:Nat} {x y:Operand} {j:Int} {d:E.T.El t'} {A:Option Addr} {c:Nat} (ao:mv E.P t=some (e,n)) (aA:n=(E.T.ty t').size) (I:idx l j=some d) (ap:o.op= .indexAddr t x y)
 (ad:a.eval x= .slice A l.length c) (gT:(bZ (E.T.ty t')).rd F w [.slice A l.length c] l) (hy:a.eval y= .int .i64 j):∃ r,jK E.P o a r/\au E.T F w ρ bl (.x t' d 0) r:=by
 have AZ:=I
 obtain ⟨hu,aj⟩:=p2 ao
 obtain ⟨dB,aC,cs,bk,bH⟩:=zx _ gT I
 refine ⟨_,fun w'=>nF hu aj ap ad hy dB aC,?_⟩
 simp only [au]
 obtain ⟨cN,bC,e1,e2,e3,e4,e5⟩:=(gT:(bZ _).rd _ w _ l)
 have b2:l≠ []:=by intro e;subst e;have:=(jW AZ).2.1;simp at this
 have az:=(e5 b2).2.1
 simp only [List.cons.injEq,Value.slice.injEq,and_true,true_and] at e1
 obtain ⟨rfl,rfl⟩:=e1
 exact ⟨di A,f_ A+j.toNat*(E.T.ty t').size,cs,by rw [aA];simp,az,bk,bH⟩
theorem anB {o:Oper} {a:Act} {t:Nat} {x y:Operand} {u v z:aI E.T.El} (hm:Mem E.T W M0 X bl ρ w) (h:(MZ E bl t u v).out z) (ap:o.op= .indexAddr t x y)
 (ad:au E.T (bi X bl ρ w) w ρ bl u (a.eval x)) (hy:au E.T (bi X bl ρ w) w ρ bl v (a.eval y)):∃ r,jK E.P o a r/\au E.T (bi X bl ρ w) w ρ bl z r:=by
 unfold MZ at h
 split at h
 · rename_i t' l j
   split at h
   · rename_i e n ao
     split at h
     · rename_i ah
       obtain ⟨d,I,aa⟩:=h
       have aa:aI.x t' d 0 =z:=aa
       subst aa
       simp only [au] at ad hy
       obtain ⟨A,c,ag⟩:=kJ _ ad
       rw [ag] at ad
       exact Xt ao (Nat.eq_of_beq_eq_true ah) I ap ag ad hy
     · exact h.elim
   · exact h.elim
 · rename_i t' l j
   split at h
   · rename_i e n ao
     split at h
     · rename_i ah
       obtain ⟨d,I,aa⟩:=h
       have aa:aI.x t' d 0 =z:=aa
       subst aa
       simp only [au] at ad hy
       obtain ⟨A,c,ag⟩:=kJ _ ad.1
       have ad:=ad.1
       rw [ag] at ad
       exact Xt ao (Nat.eq_of_beq_eq_true ah) I ap ag ad hy
     · exact h.elim
   · exact h.elim
 · rename_i i g j
   split at h
   · rename_i e n t' bB k l ao hi
     rw [cU] at hi
     split at h
     · rename_i ah
       simp only [Bool.and_eq_true] at ah
       obtain ⟨d,I,aa⟩:=h
       have aa:aI.e i g k t' j d 0 =z:=aa
       subst aa
       simp only [au] at ad hy
       obtain ⟨_,aL,bk,bH,bU⟩:=ad
       rw [hi] at bH bU
       have jn:=bU (Nat.eq_of_beq_eq_true ah.1)
       obtain ⟨A,c,xs,e1,e2,e3⟩:=hm.ok i _ _ hi bk
       subst e1
       obtain ⟨Ig,yw,yx⟩:=jW I
       obtain ⟨dS,rfl⟩:=B1 e2 (by omega)
       obtain ⟨hu,aj⟩:=p2 ao
       have aA:=Nat.eq_of_beq_eq_true ah.2
       refine ⟨_,fun w'=>nF hu aj ap jn hy rfl ⟨Ig,by omega⟩,?_⟩
       simp only [au]
       refine ⟨trivial,_,bk,by rw [hi];exact bH,fun _=>⟨⟨_,_,_,rfl,Ig,by omega,by simp [di,f_,hi,iv,aA]⟩,by rw [hi];exact Nat.le_refl _,fun _=>⟨l,by rw [hi];rfl,I⟩⟩⟩
     · exact h.elim
   · rename_i e n t' sz bB cs ao hi
     rw [cU] at hi
     split at h
     · rename_i ah
       simp only [Bool.and_eq_true,decide_eq_true_eq] at ah
       obtain ⟨⟨⟨⟨bX,eb⟩,gk⟩,gE⟩,kj⟩:=ah
       have h:aI.w i g (j.toNat*sz)=z:=h
       subst h
       simp only [au] at ad hy
       obtain ⟨_,aL,bk,bH,bU⟩:=ad
       rw [hi] at bH bU
       have jn:=bU (Nat.eq_of_beq_eq_true bX)
       obtain ⟨A,m,c,xs,e1,e2,e3⟩:=hm.ok i _ _ hi bk
       subst e1
       have gE:=Nat.le_of_ble_eq_true gE
       have kj:=Nat.le_of_ble_eq_true kj
       have hlen:=e3.len
       have aCO:=e2.len
       have aCM:j.toNat <m:=by
        rcases Nat.lt_or_ge j.toNat m with q | q
        · exact q
        · have:=Nat.mul_le_mul_right sz q
          rw [Nat.add_mul] at gE
          omega
       obtain ⟨dS,rfl⟩:=B1 e2 (by omega)
       obtain ⟨hu,aj⟩:=p2 ao
       have aA:=Nat.eq_of_beq_eq_true eb
       refine ⟨_,fun w'=>nF hu aj ap jn hy rfl ⟨gk,by omega⟩,?_⟩
       simp only [au]
       exact ⟨trivial,_,bk,by rw [hi];exact bH,fun _=>⟨_,_,_,rfl,by omega,by simp [di,f_,aA]⟩⟩
     · exact h.elim
   · exact h.elim
 · rename_i i g lo cL j
   split at h
   · rename_i e n t' bB k l ao hi
     rw [cU] at hi
     split at h
     · rename_i ah
       simp only [Bool.and_eq_true] at ah
       obtain ⟨d,I,aa⟩:=h
       have aa:aI.e i g k t' (lo+j) d 0 =z:=aa
       subst aa
       simp only [au] at ad hy
       obtain ⟨_,aL,bk,bH,bU⟩:=ad
       rw [hi] at bH bU
       obtain ⟨cN,eI,bC,B,cW,qX,l1,cj,jn,_,bN⟩:=bU (Nat.eq_of_beq_eq_true ah.1)
       obtain ⟨A,c,xs,e1,e2,e3⟩:=hm.ok i _ _ hi bk
       rw [e1] at cW e2
       simp only [Value.slice.injEq] at cW
       obtain ⟨rfl,rfl,rfl⟩:=cW
       obtain ⟨AZ,Zs,vl⟩:=aqR qX cj I
       obtain ⟨dS,rfl⟩:=B1 e2 (by omega)
       have qJ:=J8 e2
       obtain ⟨hu,aj⟩:=p2 ao
       have aA:=Nat.eq_of_beq_eq_true ah.2
       rw [bN (by omega)] at jn
       simp only [Option.map_some,jN] at jn
       refine ⟨_,fun w'=>nF hu aj ap jn hy rfl ⟨Zs,by omega⟩,?_⟩
       simp only [au]
       refine ⟨trivial,_,bk,by rw [hi];exact bH,fun _=>⟨⟨_,_,_,e1,by omega,by omega,?_⟩,by rw [hi];exact Nat.le_refl _,fun _=>⟨l,by rw [hi];rfl,AZ⟩⟩⟩
       rw [hi]
       have:(lo+j).toNat=lo.toNat+j.toNat:=by omega
       simp [di,f_,iv,aA,this,Nat.add_mul]
     · exact h.elim
   · exact h.elim
 · rename_i i g sz ec j
   split at h
   · rename_i e n ao
     split at h
     · rename_i ah
       obtain ⟨q,I,aa⟩:=h
       have aa:aI.v9 i g sz q=z:=aa
       subst aa
       simp only [au] at ad hy
       obtain ⟨A,c,ag,_,_,a'⟩:=ad
       obtain ⟨Ig,yw,yx⟩:=jW I
       have b2:ec≠ []:=by intro e;subst e;simp at yw
       obtain ⟨dB,az,xs,bf,bh⟩:=a' b2
       obtain ⟨u,u1,u2⟩:=bf.at_ yx
       obtain ⟨hu,aj⟩:=p2 ao
       have aA:=Nat.eq_of_beq_eq_true ah
       refine ⟨_,fun w'=>nF hu aj ap ag hy dB ⟨Ig,by omega⟩,?_⟩
       simp only [au]
       refine ⟨di A,f_ A+j.toNat,u,by rw [aA];simp,az,u2,fun m y hm=>?_⟩
       cases m with
       | zero=>
         simp only [List.getElem?_cons_zero,Option.some.injEq] at hm
         subst hm
         simpa using bh _ _ u1
       | succ m=>simp at hm
     · exact h.elim
   · exact h.elim
 · exact h.elim
def M3 (E:Env) (bl:List (aF E.T.El)) (t:Nat):aI E.T.El->D (aI E.T.El)
 | .p (.string ⟨⟨p⟩⟩)=>match jH (E.P.underlying t) with
   | some .s=>.ok (.p (.int .i64 (p.length:Int)))
   | _=>.no
 | .p (.slice _ n _)=>match jH (E.P.underlying t) with
   | some .cf=>.ok (.p (.int .i64 (n:Int)))
   | _=>.no
 | .s _ l=>match jH (E.P.underlying t) with
   | some .cf=>.ok (.p (.int .i64 (l.length:Int)))
   | _=>.no
 | .q _ l=>match jH (E.P.underlying t) with
   | some .cf=>.ok (.p (.int .i64 (l.length:Int)))
   | _=>.no
 | .pp _ _ _ l=>match jH (E.P.underlying t) with
   | some .cf=>.ok (.p (.int .i64 (l.length:Int)))
   | _=>.no
 | .r i g=>match jH (E.P.underlying t),nth bl i with
   | some .cf,some (.r _ bB _ l)=>match Nat.beq g bB with
     | true=>.ok (.p (.int .i64 (l.length:Int)))
     | false=>.no
   | some .cf,some (.k _ sz bB cs)=>match Nat.beq g bB && Nat.blt 0 sz with
     | true=>.ok (.p (.int .i64 ((cs.length / sz:Nat):Int)))
     | false=>.no
   | _,_=>.no
 | .v i g lo hi=>match jH (E.P.underlying t) with
   | some .cf=>match Nat.beq g (qE bl i) with
     | true=>.ok (.p (.int .i64 (hi - lo)))
     | false=>.no
   | _=>.no
 | _=>.no
theorem anF {o:Oper} {a:Act} {t:Nat} {x:Operand} {u z:aI E.T.El} (hm:Mem E.T W M0 X bl ρ w) (h:(M3 E bl t u).out z) (ap:o.op= .call { callee:=.builtin .len,args:=#[x],argTypes:=#[t] })
 (ad:au E.T (bi X bl ρ w) w ρ bl u (a.eval x)):∃ r,jK E.P o a r/\au E.T (bi X bl ρ w) w ρ bl z r:=by
 have fin:∀ {A:Option Addr} {n c:Nat},jH (E.P.underlying t)=some .cf->a.eval x= .slice A n c->(D.ok (aI.p (.int .i64 (n:Int)))).out z-> ∃ r,jK E.P o a r/\au E.T (bi X bl ρ w) w ρ bl z r:=fun {A n c} ai ag h=>by
  have h:aI.p (.int .i64 (n:Int))=z:=h
  subst h
  obtain ⟨e,he⟩:=(sN ai:lJ.ok E.P t .cf)
  exact ⟨_,fun w'=>agH he ap ag,by simp only [au]⟩
 unfold M3 at h
 split at h
 · rename_i p
   split at h
   · rename_i ai
     have h:aI.p (.int .i64 (p.length:Int))=z:=h
     subst h
     simp only [au] at ad
     exact ⟨_,fun w'=>agI (sN ai) ap ad,by simp only [au]⟩
   · exact h.elim
 · split at h
   · rename_i ai;simp only [au] at ad;exact fin ai ad h
   · exact h.elim
 · split at h
   · rename_i ai;simp only [au] at ad;obtain ⟨A,c,ag⟩:=kJ _ ad;exact fin ai ag h
   · exact h.elim
 · split at h
   · rename_i ai;simp only [au] at ad;obtain ⟨A,ag⟩:=ad.2;exact fin ai ag h
   · exact h.elim
 · split at h
   · rename_i ai;simp only [au] at ad;obtain ⟨A,c,ag,_⟩:=ad;exact fin ai ag h
   · exact h.elim
 · rename_i i g
   split at h
   · rename_i t' bB k l ai hi
     rw [cU] at hi
     split at h
     · rename_i ah
       simp only [au] at ad
       obtain ⟨_,aL,bk,bH,bU⟩:=ad
       rw [hi] at bU
       obtain ⟨A,c,xs,e1,_⟩:=hm.ok i _ _ hi bk
       exact fin ai ((bU (Nat.eq_of_beq_eq_true ah)).trans e1) h
     · exact h.elim
   · rename_i t' sz bB cs ai hi
     rw [cU] at hi
     split at h
     · rename_i ah
       simp only [Bool.and_eq_true] at ah
       simp only [au] at ad
       obtain ⟨_,aL,bk,bH,bU⟩:=ad
       rw [hi] at bU
       obtain ⟨A,m,c,xs,e1,e2,e3⟩:=hm.ok i _ _ hi bk
       have hlen:=e3.len
       have aa:=e2.len
       have cX:=Nat.le_of_ble_eq_true ah.2
       have aQ:cs.length / sz=m:=by rw [<-hlen,aa];exact Nat.mul_div_cancel _ cX
       rw [aQ] at h
       exact fin ai ((bU (Nat.eq_of_beq_eq_true ah.1)).trans e1) h
     · exact h.elim
   · exact h.elim
 · rename_i i g lo cL
   split at h
   · rename_i ai
     split at h
     · rename_i ah
       have ah:=Nat.eq_of_beq_eq_true ah
       rw [yg] at ah
       simp only [au] at ad
       obtain ⟨_,aL,bk,bH,bU⟩:=ad
       obtain ⟨A,m,c,B,cW,qX,l1,cj,ag,_⟩:=bU ah
       refine fin ai ag ?_
       have h:aI.p (.int .i64 (cL - lo))=z:=h
       rw [<-h,show ((cL.toNat - lo.toNat:Nat):Int)=cL - lo by omega]
       exact rfl
     · exact h.elim
   · exact h.elim
 · exact h.elim
end
end bz
namespace bz
open Go Go.RowKit av J
theorem alX {α:Type} {T:db α} {F:Nat->Prop} {w:World} {A:Option Addr} {c:Nat} {li r:List α} {i j:Int} (h:(bZ T).rd F w [.slice A li.length c] li) (ay:cut li i j=some r) :
 (bZ T).rd F w [.slice (if c=i.toNat then A else A.map (·.add (i.toNat*T.size))) (j.toNat - i.toNat) (c - i.toNat)] r/\j.toNat - i.toNat=r.length/\li.length<=c:=by
 obtain ⟨⟨aN,I,aa⟩,rfl⟩:=Mw ay
 obtain ⟨dW,c1,e1,e2,e3,e4,e5⟩:=h
 simp only [List.cons.injEq,Value.slice.injEq,and_true,true_and] at e1
 obtain ⟨rfl,rfl⟩:=e1
 have hlen:((li.take j.toNat).drop i.toNat).length=j.toNat - i.toNat:=by rw [List.length_drop,List.length_take];omega
 refine ⟨?_,hlen.symm,e2⟩
 refine ⟨_,c - i.toNat,by rw [hlen],by rw [hlen];omega,by omega,fun dB=>?_,fun b2=>?_⟩
 · split at dB
   · have:=e4 dB;omega
   · cases A with
     | none=>have:=e4 rfl;omega
     | some ea=>cases dB
 · have gS:0 <((li.take j.toNat).drop i.toNat).length:=List.length_pos_iff.2 b2
   have Ij:li≠ []:=by intro e;subst e;simp at gS
   obtain ⟨dH,bB,xs,fI,iP⟩:=e5 Ij
   have qK:c≠i.toNat:=by omega
   rw [if_neg qK,dH]
   refine ⟨?_,?_⟩
   · simp only [Option.map_some,jN]
     rfl
   simp only [Option.map_some,jN]
   refine ⟨bB,_,rm i.toNat j.toNat fI,fun q u hu=>?_⟩
   have aQ:(xs.take (j.toNat*T.size))[i.toNat*T.size+q]? =some u:=by rwa [List.getElem?_drop] at hu
   rw [List.getElem?_take] at aQ
   split at aQ
   · have:=iP (i.toNat*T.size+q) u aQ
     simpa [di,f_,Nat.add_assoc] using this
   · cases aQ
def o8 {El:Nat->Type} (z:Int):Option (aI El)->Option Int
 | none=>some z
 | some (.p (.int .i64 n))=>some n
 | _=>none
def oN (n:Nat) (lo hi:Int):Option Unit:=if 0 <=lo/\lo<=hi/\hi<=(n:Int) then some () else none
theorem acZ {n:Nat} {lo hi:Int} {u:Unit} (h:oN n lo hi=some u):0 <=lo/\lo<=hi/\hi<=(n:Int):=by
 unfold oN at h
 split at h
 · assumption
 · cases h
def CD {El:Nat->Type}:Option (aI El)->Bool
 | none=>true
 | some (.p (.int .i64 (.ofNat 0)))=>true
 | _=>false
def MX (E:Env) (bl:List (aF E.T.El)) (t:Nat) (u:aI E.T.El) (lo hi:Option (aI E.T.El)):D (aI E.T.El):=match u with
 | .s t' l=>match mv E.P t,o8 0 lo,o8 (l.length:Int) hi with
   | some (_,n),some i,some j=>match Nat.beq n (E.T.ty t').size with
     | true=>.op (cut l i j) fun r=>.ok (.s t' r)
     | false=>.no
   | _,_,_=>.no
 | .p (.string ⟨⟨p⟩⟩)=>match jH (E.P.underlying t),o8 0 lo,o8 (p.length:Int) hi with
   | some .s,some i,some j=>.op (cut p i j) fun r=>.ok (.p (cg r))
   | _,_,_=>.no
 | .r i g=>match mv E.P t,nth bl i with
   | some (_,n),some (.r t' bB _ l)=>match o8 0 lo,o8 (l.length:Int) hi,Nat.beq g bB && Nat.beq n (E.T.ty t').size with
     | some a,some b,true=>.op (oN l.length a b) fun _=>.ok (.v i g a b)
     | _,_,_=>.no
   | _,_=>.no
 | .v i g p q=>match mv E.P t,nth bl i with
   | some (_,n),some (.r t' bB _ l)=>match o8 0 lo,o8 (q - p) hi,Nat.beq g bB && Nat.beq n (E.T.ty t').size with
     | some a,some b,true=>.op (oN (q - p).toNat a b) fun _=>.ok (.v i g (p+a) (p+b))
     | _,_,_=>.no
   | _,_=>.no
 | .p (.slice none 0 0)=>match mv E.P t,CD lo && CD hi with
   | some _,true=>.ok (.p (.slice none 0 0))
   | _,_=>.no
 | _=>.no
section
variable {E:Env} {W w:World} {M0:List Nat} {X:Nat->Prop} {bl:List (aF E.T.El)} {ρ:List Value} {a:Act}
def x2 (E:Env) (F:Nat->Prop) (w:World) (ρ:List Value) (bl:List (aF E.T.El)) (a:Act):Option Operand->Option (aI E.T.El)->Prop
 | none,none=>True
 | some x,some y=>au E.T F w ρ bl y (a.eval x)
 | _,_=>False
theorem r_ {F:Nat->Prop} {lo:Option Operand} {u:Option (aI E.T.El)} {z i:Int} (h:x2 E F w ρ bl a lo u) (ah:o8 z u=some i):(lo=none/\i=z)\/ ∃ x,lo=some x/\a.eval x= .int .i64 i:=by
 cases lo with
 | none=>
   cases u with
   | none=>simp only [o8,Option.some.injEq] at ah;exact .inl ⟨rfl,ah.symm⟩
   | some y=>exact h.elim
 | some x=>
   cases u with
   | none=>exact h.elim
   | some y=>
     right
     refine ⟨x,rfl,?_⟩
     have h:au E.T F w ρ bl y (a.eval x):=h
     unfold o8 at ah
     split at ah
     · rename_i e;cases e
     · rename_i n e
       simp only [Option.some.injEq] at e ah
       subst e;subst ah
       simpa only [au] using h
     · cases ah
theorem LL {F:Nat->Prop} {lo:Option Operand} {u:Option (aI E.T.El)} (h:x2 E F w ρ bl a lo u) (ah:CD u=true):(lo=none/\(0 :Int)= 0)\/ ∃ x,lo=some x/\a.eval x= .int .i64 0 :=by
 refine r_ (z:=0) (i:=0) h ?_
 unfold CD at ah
 split at ah
 · rfl
 · rfl
 · cases ah
theorem anx {o:Oper} {t:Nat} {x:Operand} {lo hi:Option Operand} {u z:aI E.T.El} {acF acE:Option (aI E.T.El)} (hm:Mem E.T W M0 X bl ρ w) (h:(MX E bl t u acF acE).out z) (ap:o.op= .slice t x lo hi none)
 (ad:au E.T (bi X bl ρ w) w ρ bl u (a.eval x)) (m0:x2 E (bi X bl ρ w) w ρ bl a lo acF) (jE:x2 E (bi X bl ρ w) w ρ bl a hi acE):∃ r,jK E.P o a r/\au E.T (bi X bl ρ w) w ρ bl z r:=by
 unfold MX at h
 split at h
 · rename_i t' l
   split at h
   · rename_i e n i j ao I aa
     split at h
     · rename_i ah
       obtain ⟨r,aq,a'⟩:=h
       have a':aI.s t' r=z:=a'
       subst a'
       obtain ⟨hu,aj⟩:=p2 ao
       simp only [au] at ad
       obtain ⟨A,c,ag⟩:=kJ _ ad
       rw [ag] at ad
       obtain ⟨bf,bh,ca⟩:=alX ad aq
       have aA:=Nat.eq_of_beq_eq_true ah
       subst aA
       exact ⟨_,fun w'=>LC hu aj ap ag (r_ m0 I) (r_ jE aa) (Mw aq).1 ca,by simp only [au];exact bf⟩
     · exact h.elim
   · exact h.elim
 · rename_i p
   split at h
   · rename_i i j ai I aa
     obtain ⟨r,aq,a'⟩:=h
     have a':aI.p (cg r)=z:=a'
     subst a'
     simp only [au] at ad
     exact ⟨_,fun w'=>aBJ (sN ai) ap ad (r_ m0 I) (r_ jE aa) aq,by simp only [au]⟩
   · exact h.elim
 · rename_i i g
   split at h
   · rename_i e n t' bB k l ao cL
     rw [cU] at cL
     split at h
     · rename_i p q I aa ah
       simp only [Bool.and_eq_true] at ah
       obtain ⟨r,aq,a'⟩:=h
       have a':aI.v i g p q=z:=a'
       subst a'
       obtain ⟨hu,aj⟩:=p2 ao
       simp only [au] at ad
       obtain ⟨_,aL,bk,bH,bU⟩:=ad
       rw [cL] at bH bU
       have jn:=bU (Nat.eq_of_beq_eq_true ah.1)
       obtain ⟨A,c,xs,e1,e2,e3⟩:=hm.ok i _ _ cL bk
       rw [e1] at jn e2
       obtain ⟨aY,v1,v2⟩:=acZ aq
       have aA:=Nat.eq_of_beq_eq_true ah.2
       subst aA
       refine ⟨_,fun w'=>LC hu aj ap jn (r_ m0 I) (r_ jE aa) ⟨aY,v1,v2⟩ (J8 e2),?_⟩
       simp only [au]
       have dB:A=A.map (·.add (0 *(E.T.ty t').size)):=by
        cases A <;> simp [Addr.add]
       refine ⟨trivial,aL,bk,by rw [cL];exact bH,fun _=>⟨A,_,c,_,e1,aY,v1,v2,rfl,fun e=>?_,fun e=>?_⟩⟩
       · subst e
         split
         · rfl
         · exact dB.symm
       · rw [if_neg (by have:=J8 e2;omega),cL];rfl
     · exact h.elim
   · exact h.elim
 · rename_i i g p q
   split at h
   · rename_i e n t' bB k l ao cL
     rw [cU] at cL
     split at h
     · rename_i s r I aa ah
       simp only [Bool.and_eq_true] at ah
       obtain ⟨_,aq,a'⟩:=h
       have a':aI.v i g (p+s) (p+r)=z:=a'
       subst a'
       obtain ⟨hu,aj⟩:=p2 ao
       simp only [au] at ad
       obtain ⟨_,aL,bk,bH,bU⟩:=ad
       rw [cL] at bH bU
       obtain ⟨cN,eI,bC,B,cW,qX,l1,cj,jn,HZ,bN⟩:=bU (Nat.eq_of_beq_eq_true ah.1)
       obtain ⟨A,c,xs,e1,e2,e3⟩:=hm.ok i _ _ cL bk
       rw [e1] at cW e2
       simp only [Value.slice.injEq] at cW
       obtain ⟨rfl,rfl,rfl⟩:=cW
       have qJ:=J8 e2
       obtain ⟨aY,v1,v2⟩:=acZ aq
       have aA:=Nat.eq_of_beq_eq_true ah.2
       subst aA
       have Yc:=r_ jE aa
       rw [show q - p=((q.toNat - p.toNat:Nat):Int) by omega] at Yc
       refine ⟨_,fun w'=>LC hu aj ap jn (r_ m0 I) Yc ⟨aY,v1,by omega⟩ (by omega),?_⟩
       simp only [au]
       have Em:(p+s).toNat=p.toNat+s.toNat:=by omega
       have jG:(p+r).toNat=p.toNat+r.toNat:=by omega
       refine ⟨trivial,aL,bk,by rw [cL];exact bH,fun _=>⟨A,_,c,(if c - p.toNat=s.toNat then B else B.map (·.add (s.toNat*(E.T.ty t').size))),e1,by omega,by omega,by omega,?_,fun e=>?_,fun e=>?_⟩⟩
       · rw [Em,jG,show p.toNat+r.toNat - (p.toNat+s.toNat)=r.toNat - s.toNat by omega,show c - p.toNat - s.toNat=c - (p.toNat+s.toNat) by omega]
       · have va:p= 0 :=by omega
         have yE:s= 0 :=by omega
         subst va;subst yE
         rw [HZ rfl]
         split
         · rfl
         · cases A <;> simp [Addr.add]
       · obtain ⟨dS,rfl⟩:=B1 e2 (by omega)
         rw [if_neg (by omega),bN (by omega),cL]
         simp [jN,iv,Em,Nat.add_mul]
     · exact h.elim
   · exact h.elim
 · split at h
   · rename_i e ao ah
     have h:aI.p (.slice none 0 0)=z:=h
     subst h
     simp only [Bool.and_eq_true] at ah
     obtain ⟨hu,aj⟩:=p2 ao
     simp only [au] at ad
     exact ⟨_,fun w'=>aBI hu aj ap ad (LL m0 ah.1) ((LL jE ah.2).imp (fun h=>⟨h.1,rfl⟩) id),by simp only [au]⟩
   · exact h.elim
 · exact h.elim
end
end bz
namespace bz
open Go Go.RowKit av J
def q4 {cD β:Type} (K:iL cD) (d:List (cD × β)) (k:cD):Option β:=@du cD β K.dec d k
def ja {cD β:Type} (K:iL cD) (d:List (cD × β)) (k:cD):Option Nat:=@nd cD β K.dec d k
def q5 {cD β:Type} (K:iL cD) (d:List (cD × β)) (k:cD) (v:β):List (cD × β):=@hA cD β K.dec d k v
abbrev iL.enc {cD:Type} (K:iL cD):cD->Value:=@kd.enc cD K.dec K.pB
abbrev iL.desc {cD:Type} (K:iL cD):TypeDesc:=@kd.desc cD K.dec K.pB
section
variable {T:b3} {F:Nat->Prop} {w:World} {bP vt:Nat} {K:iL (T.El bP)}
theorem Nj (k:T.El bP):∀ {es:List MapEntry} {d:List (T.El bP × T.El vt)} (i:Nat),jx T F w K es d ->
 (q4 K d k=none/\ja K d k=none/\Instr.findNow K.desc (K.enc k) es i=some none)\/(∃ p x v,q4 K d k=some x/\ja K d k=some p/\x3 T F w vt x v/\Instr.findNow K.desc (K.enc k) es i=some (some (i+p,v)))
 | [],[],i,_=>.inl ⟨rfl,rfl,rfl⟩
 | [],_::_,_,h=>h.elim
 | _::_,[],_,h=>h.elim
 | e::es,p::d,i,h=>by
   obtain ⟨I,aa,aq⟩:=h
   have ao:Instr.sameNow K.desc (K.enc k) e.key=some (@decide (p.1 =k) (K.dec p.1 k)):=by rw [I];exact @kd.same _ K.dec K.pB k p.1
   by_cases aD:p.1 =k
   · right
     refine ⟨0,p.2,e.val,?_,?_,aa,?_⟩
     · simp only [q4,du,if_pos aD]
     · simp only [ja,nd,if_pos aD]
     · simp only [Instr.findNow,ao,aD,decide_true,Nat.add_zero]
   · have e1:Instr.findNow K.desc (K.enc k) (e::es) i=Instr.findNow K.desc (K.enc k) es (i+ 1):=by simp only [Instr.findNow,ao,aD,decide_false]
     rcases Nj k (i+ 1) aq with ⟨bk,bH,bU⟩ | ⟨q,x,v,bk,bH,bU,fp⟩
     · left
       refine ⟨?_,?_,by rw [e1];exact bU⟩
       · simp only [q4,du,if_neg aD];exact bk
       · simp only [ja,nd,if_neg aD]
         simp only [ja] at bH
         rw [bH];rfl
     · right
       refine ⟨q+ 1,x,v,?_,?_,bU,?_⟩
       · simp only [q4,du,if_neg aD];exact bk
       · simp only [ja,nd,if_neg aD]
         simp only [ja] at bH
         rw [bH];rfl
       · rw [e1,fp,show i+ 1 +q=i+(q+ 1) by omega]
theorem jx.len:∀ {es:List MapEntry} {d:List (T.El bP × T.El vt)},jx T F w K es d->es.length=d.length
 | [],[],_=>rfl
 | [],_::_,h=>h.elim
 | _::_,[],h=>h.elim
 | _::_,_::_,h=>by simp [jx.len h.2.2]
theorem SR {P:Program} {es:Array MapEntry} {d:List (T.El bP × T.El vt)} {t:Nat} (k:T.El bP) (ai:P.underlying t=some K.desc) (he:jx T F w K es.toList d) (w':World) :
 (q4 K d k=none/\ja K d k=none/\(Instr.findKey t (K.enc k) es.toList).run P w'= .ok none w')\/(∃ p x v,q4 K d k=some x/\ja K d k=some p/\x3 T F w vt x v/\(Instr.findKey t (K.enc k) es.toList).run P w'= .ok (some (p,v)) w'):=by
 rcases Nj k 0 he with ⟨I,aa,aq⟩ | ⟨p,x,v,I,aa,aq,a'⟩
 · left
   refine ⟨I,aa,?_⟩
   simp only [Instr.findKey,Sem.run_bind,run_underlying ai,Result.andThen_ok,aq]
   rfl
 · right
   refine ⟨p,x,v,I,aa,aq,?_⟩
   simp only [Instr.findKey,Sem.run_bind,run_underlying ai,Result.andThen_ok,a',Nat.zero_add]
   rfl
end
def Hl:Option TypeDesc->TypeDesc->Bool
 | some (.int k),.int k'=>k_ k k'
 | some .string,.string=>true
 | _,_=>false
theorem Wb {o:Option TypeDesc} {d:TypeDesc} (h:Hl o d=true):o=some d:=by
 unfold Hl at h
 split at h
 · rw [m8 h]
 · rfl
 · cases h
def UK:Value->Bool->Bool
 | .agg _,b=>b
 | _,b=>!b
def CE (P:Program) (t:TypeId):Option Value:=match P.info? t with
 | some i=>i.zero
 | none=>none
theorem aB9 {P:Program} {t:TypeId} {z:Value} (h:CE P t=some z):∀ w,(zeroValue t).run P w= .ok z w:=by
 unfold CE at h
 split at h
 · rename_i i I
   intro w
   simp only [zeroValue,typeInfo,Sem.run_bind]
   simp [go_sem,I,h]
 · cases h
theorem agY {z:Value} {b:Bool} (h:UK z b=true):z=vZ b z.cells.toList:=by
 unfold UK at h
 split at h
 · rename_i cs
   subst h
   obtain ⟨vs⟩:=cs
   rfl
 · rename_i aj
   have ah:b=false:=by simpa using h
   subst ah
   cases z <;> first | rfl | exact (aj _ rfl).elim
def tO (E:Env) (vt Dd:Nat):Option (E.T.El vt):=match CE E.P Dd with
 | some z=>match UK z (E.T.e vt).agg with
   | true=>(E.T.e vt).gU (z.cells.toList.map .p)
   | false=>none
 | none=>none
def mapOf (P:Program) (t:TypeId):Option (Nat × Nat):=match P.underlying t with
 | some (.map k e)=>some (k,e)
 | _=>none
theorem Qu {P:Program} {t k e:Nat} (h:mapOf P t=some (k,e)):P.underlying t=some (.map k e):=by
 unfold mapOf at h
 split at h
 · rename_i I
   simp only [Option.some.injEq,Prod.mk.injEq] at h
   obtain ⟨rfl,rfl⟩:=h
   exact I
 · cases h
def I5 {El:Nat->Type} (bl:List (aF El)):aI El->Option (Σ IP:Nat × Nat,List (El IP.1 × El IP.2))
 | .m i=>match nth bl i with
   | some (.m bP vt d)=>some ⟨(bP,vt),d⟩
   | _=>none
 | .n bP vt d=>some ⟨(bP,vt),d⟩
 | _=>none
def Bu (E:Env) (ok:Bool) {bP vt:Nat} (K:iL (E.T.El bP)) (d:List (E.T.El bP × E.T.El vt)) (k:E.T.El bP) (z:E.T.El vt):aI E.T.El:=match ok with
 | true=>.u [E.T.val vt ((q4 K d k).getD z),.p (.bool (q4 K d k).isSome)]
 | false=>E.T.val vt ((q4 K d k).getD z)
def M5 (E:Env) (bl:List (aF E.T.El)) (t:Nat) (ok:Bool) (u v:aI E.T.El):D (aI E.T.El):=match mapOf E.P t,I5 bl u with
 | some (k,e),some ⟨(bP,vt),d⟩=>match (E.T.e bP).key with
   | some K=>match Hl (E.P.underlying k) K.desc,(E.T.e bP).gU (cellsOf v),tO E vt e,(match jX v with | true=>(E.T.e bP).agg | false=>!(E.T.e bP).agg) with
     | true,some key,some z,true=>.ok (Bu E ok K d key z)
     | _,_,_,_=>.no
   | none=>.no
 | _,_=>.no
section
variable {E:Env} {W w:World} {M0:List Nat} {X:Nat->Prop} {bl:List (aF E.T.El)} {ρ:List Value} {a:Act}
def zc {El:Nat->Type}:aI El->Option Nat
 | .m i=>some i
 | _=>none
theorem Z1 (hm:Mem E.T W M0 X bl ρ w) {u:aI E.T.El} {v:Value} {bP vt:Nat} {d:List (E.T.El bP × E.T.El vt)} (h:I5 bl u=some ⟨(bP,vt),d⟩) (ag:au E.T (bi X bl ρ w) w ρ bl u v) :
 ∃ r,v= .map (some r)/\t_ E.T (bi X bl ρ w) w bP vt r d/\GL X bl ρ w r (zc u):=by
 cases u <;> simp only [I5,reduceCtorEq] at h
 · rename_i i
   split at h
   · rename_i arl ayc d' hi
     simp only [Option.some.injEq,Sigma.mk.injEq,Prod.mk.injEq] at h
     obtain ⟨⟨rfl,rfl⟩,h⟩:=h
     have h:=eq_of_heq h
     subst h
     rw [cU] at hi
     simp only [au] at ag
     obtain ⟨r,I,rfl⟩:=ag
     obtain ⟨h3,e1,e2⟩:=hm.ok i _ _ hi I
     simp only [Value.map.injEq,Option.some.injEq] at e1
     subst e1
     exact ⟨r,rfl,e2,_,_,hi,I,by simp [bw,ah]⟩
   · cases h
 · rename_i arl ayc d'
   simp only [Option.some.injEq,Sigma.mk.injEq,Prod.mk.injEq] at h
   obtain ⟨⟨rfl,rfl⟩,h⟩:=h
   have h:=eq_of_heq h
   subst h
   simp only [au] at ag
   obtain ⟨r,rfl,I,aa⟩:=ag
   exact ⟨r,rfl,aa,I⟩
theorem Ma {F:Nat->Prop} {u:aI E.T.El} {v:Value} {b:Bool} (ag:au E.T F w ρ bl u v) (h:(match jX u with | true=>b | false=>!b)=true):v=vZ b v.cells.toList:=by
 cases aK:jX u with
 | true=>
   rw [aK] at h
   have h:b=true:=h
   subst h
   exact Es aK ag
 | false=>
   rw [aK] at h
   have h:b=false:=by simpa using h
   subst h
   have hc:=mM ag
   have:v.cells.toList= [v]:=by
    cases u with
    | p u=>
      simp only [au] at ag
      subst ag
      cases v <;> first | rfl | (simp [jX] at aK)
    | a l=>simp [jX] at aK
    | b i o=>simp only [au] at ag;obtain ⟨g,_,rfl⟩:=ag;rfl
    | x t d o=>simp only [au] at ag;obtain ⟨_,_,_,rfl,_⟩:=ag;rfl
    | s t l=>simp only [au] at ag;obtain ⟨A,c,e⟩:=kJ _ ag;subst e;rfl
    | q t l=>simp only [au] at ag;obtain ⟨_,A,rfl⟩:=ag;rfl
    | r i g=>simp only [au] at ag;exact Hd ag.1
    | v i g lo hi=>simp only [au] at ag;exact Hd ag.1
    | e i g k t j d o=>simp only [au] at ag;exact Hc ag.1
    | w i g o=>simp only [au] at ag;exact Hc ag.1
    | m i=>simp only [au] at ag;obtain ⟨g,_,rfl⟩:=ag;rfl
    | n _ _ _=>simp only [au] at ag;obtain ⟨g,rfl,_⟩:=ag;rfl
    | f fn cs=>simp only [au] at ag;obtain ⟨g,rfl,_⟩:=ag;rfl
    | h fn us=>simp only [au] at ag;obtain ⟨g,rfl,_⟩:=ag;rfl
    | u l=>simp only [au] at ag;obtain ⟨g,rfl,_⟩:=ag;rfl
    | i t z=>simp only [au] at ag;obtain ⟨g,rfl,_⟩:=ag;rfl
    | pp i g sz ec=>simp only [au] at ag;obtain ⟨_,_,rfl,_⟩:=ag;rfl
    | v9 i g sz q=>simp only [au] at ag;obtain ⟨_,_,_,rfl,_⟩:=ag;rfl
   rw [this];rfl
theorem acY (a5:dn E) {F:Nat->Prop} {vt:Nat} {x:E.T.El vt} {v:Value} (h:x3 E.T F w vt x v):au E.T F w ρ bl (E.T.val vt x) v:=by
 obtain ⟨xs,I,rfl⟩:=h
 exact a5.tb.val I
theorem val_zero (a5:dn E) {F:Nat->Prop} {vt Dd:Nat} {z:E.T.El vt} (h:tO E vt Dd=some z):∃ eB,(∀ w,(zeroValue Dd).run E.P w= .ok eB w)/\au E.T F w ρ bl (E.T.val vt z) eB:=by
 unfold tO at h
 split at h
 · rename_i eB I
   split at h
   · rename_i aa
     refine ⟨eB,aB9 I,?_⟩
     have:=a5.tb.gU _ _ _ h F w ρ bl _ (pZ eB.cells.toList)
     rw [agY aa]
     have ag:=a5.tb.val (ρ:=ρ) (bl:=bl) this
     exact ag
   · cases h
 · cases h
theorem anH (a5:dn E) (hm:Mem E.T W M0 X bl ρ w) {o:Oper} {t:Nat} {ok:Bool} {x y:Operand} {u v z:aI E.T.El} (h:(M5 E bl t ok u v).out z) (ap:o.op= .lookup t x y ok)
 (ad:au E.T (bi X bl ρ w) w ρ bl u (a.eval x)) (hy:au E.T (bi X bl ρ w) w ρ bl v (a.eval y)) :
 ∃ r q,au E.T (bi X bl ρ w) w ρ bl z r/\GL X bl ρ w q (zc u)/\ ∀ w',w'.heap[q]? =w.heap[q]? ->bd E.P o a w' r w':=by
 unfold M5 at h
 split at h
 · rename_i k e bP vt d I aa
   split at h
   · rename_i K cP
     split at h
     · rename_i key hR aL Pb aj sm
       have h:Bu E ok K d key hR=z:=h
       subst h
       obtain ⟨q,l_,⟨akM,Dw,es,gG,dd,dY,lf⟩,vb⟩:=Z1 hm aa ad
       rw [cP] at Dw
       cases Dw
       have DY:a.eval y=K.enc key:=by
        have e1:=a5.tb.gU _ _ _ Pb _ _ _ _ _ (mM hy)
        have e2:=a5.tb.key _ _ cP _ _ _ _ e1
        exact (Ma hy sm).trans e2
       have hu:=Qu I
       have sB:=Wb aL
       obtain ⟨eB,ma,Zf⟩:=val_zero a5 (w:=w) (F:=bi X bl ρ w) (ρ:=ρ) (bl:=bl) aj
       have abR:∀ w',w'.heap[q]? =w.heap[q]? ->(Instr.lookup t (.map (some q)) (K.enc key) ok).run E.P w'=(do
        let (v,atU) <-match <-Instr.findKey k (K.enc key) es.toList with
         | some (_,v)=>pure (v,true)
         | none=>pure (<-zeroValue e,false)
        pure (if ok then Value.tuple #[v,.bool atU] else v):Sem Value).run E.P w':=fun w' hw=>by
        simp only [Instr.lookup,Sem.run_bind,Sem.run_pure,run_underlying hu,Result.andThen_ok,MapKept.run_getObj_map (hw.trans dd),@kd.check _ K.dec K.pB E.P w' es.isEmpty k key sB]
        rfl
       rcases SR (vt:=vt) key sB dY w with ⟨f1,f2,_⟩ | ⟨p,agC,Ci,f1,f2,f3,f6⟩
       · refine ⟨if ok then .tuple #[eB,.bool false] else eB,q,?_,vb,fun w' hw=>?_⟩
         · cases ok with
           | true=>simp only [Bu,f1,Option.getD_none,Option.isSome_none,au,if_true];exact ⟨[eB,.bool false],rfl,by simp only [a3];exact ⟨_,_,rfl,Zf,_,_,rfl,by simp only [au],rfl⟩⟩
           | false=>simp only [Bu,f1,Option.getD_none];exact Zf
         · simp only [bd,execOp,ap,l_,DY,Sem.run_bind,abR w' hw]
           rcases SR (vt:=vt) key sB dY w' with ⟨_,_,f4⟩ | ⟨p,agC,Ci,dH,_⟩
           · simp only [f4,Result.andThen_ok,Sem.run_bind,ma,Sem.run_pure]
           · rw [f1] at dH;cases dH
       · refine ⟨if ok then .tuple #[Ci,.bool true] else Ci,q,?_,vb,fun w' hw=>?_⟩
         · cases ok with
           | true=>simp only [Bu,f1,Option.getD_some,Option.isSome_some,au,if_true];exact ⟨[Ci,.bool true],rfl,by simp only [a3];exact ⟨_,_,rfl,acY a5 f3,_,_,rfl,by simp only [au],rfl⟩⟩
           | false=>simp only [Bu,f1,Option.getD_some];exact acY a5 f3
         · simp only [bd,execOp,ap,l_,DY,Sem.run_bind,abR w' hw]
           have f5:∀ w',(Instr.findKey k (K.enc key) es.toList).run E.P w'= .ok (some (p,Ci)) w':=by
            intro w'
            rcases Nj (vt:=vt) key 0 dY with ⟨dH,_⟩ | ⟨rh,nz,fh,dH,bB,fI,iP⟩
            · rw [f1] at dH;cases dH
            · have:(Instr.findKey k (K.enc key) es.toList).run E.P w= .ok (some (rh,fh)) w:=by
               simp only [Instr.findKey,Sem.run_bind,run_underlying sB,Result.andThen_ok,iP,Nat.zero_add]
               rfl
              rw [f6] at this
              simp only [Result.ok.injEq,Option.some.injEq,Prod.mk.injEq,and_true] at this
              obtain ⟨rfl,rfl⟩:=this
              simp only [Instr.findKey,Sem.run_bind,run_underlying sB,Result.andThen_ok,iP,Nat.zero_add]
              rfl
           simp only [f5,Result.andThen_ok,Sem.run_bind,Sem.run_pure]
     · exact h.elim
   · exact h.elim
 · exact h.elim
def M4 (E:Env) (bl:List (aF E.T.El)) (t:Nat) (u:aI E.T.El):D (aI E.T.El):=match mapOf E.P t,I5 bl u with
 | some _,some ⟨_,d⟩=>.ok (.p (.int .i64 (d.length:Int)))
 | _,_=>.no
theorem anE (hm:Mem E.T W M0 X bl ρ w) {o:Oper} {t:Nat} {x:Operand} {u z:aI E.T.El} (h:(M4 E bl t u).out z) (ap:o.op= .call { callee:=.builtin .len,args:=#[x],argTypes:=#[t] })
 (ad:au E.T (bi X bl ρ w) w ρ bl u (a.eval x)):∃ r q,au E.T (bi X bl ρ w) w ρ bl z r/\GL X bl ρ w q (zc u)/\ ∀ w',w'.heap[q]? =w.heap[q]? ->bd E.P o a w' r w':=by
 unfold M4 at h
 split at h
 · rename_i Ev IP d I aa
   have h:aI.p (.int .i64 (d.length:Int))=z:=h
   subst h
   obtain ⟨q,l_,⟨K,cP,es,gG,dd,dY,lf⟩,vb⟩:=Z1 hm aa ad
   have hu:=Qu I
   have ak:es.size=d.length:=by have:=dY.len;simpa using this
   refine ⟨.int .i64 (d.length:Int),q,by simp only [au],vb,fun w' hw=>?_⟩
   simp only [bd,execOp,ap,resolve,invoke,List.map_toArray,List.map_cons,List.map_nil,l_]
   simp [go_sem,Builtin.len_,run_underlying hu,goInt,MapKept.run_getObj_map (hw.trans dd),ak]
 · exact h.elim
def M8 (E:Env) (t j:Nat) (u:aI E.T.El):D (aI E.T.El):=match jX u,HI E.P t j with
 | true,some (off,n4,_)=>match lay E.P n4 with
   | some gF=>.of (kZ (cellsOf u) off gF)
   | none=>.no
 | _,_=>.no
theorem anK {F:Nat->Prop} {o:Oper} {t j:Nat} {x:Operand} {u z:aI E.T.El} (h:(M8 E t j u).out z) (ap:o.op= .field t x j) (ad:au E.T F w ρ bl u (a.eval x)):∃ r,jK E.P o a r/\au E.T F w ρ bl z r:=by
 unfold M8 at h
 split at h
 · rename_i off n4 sz sm af
   split at h
   · rename_i gF ak
     have h:=D.ng h
     obtain ⟨cq,f,bf,bh,ca,c6,m7,vm⟩:=XL af
     have ag:=Es sm ad
     have hc:=mM ad
     obtain ⟨b,n⟩:=gF
     have yz:=EA ak
     subst c6;subst ca
     cases b with
     | false=>
       simp only [kZ] at h
       rw [cU] at h
       obtain ⟨v,I,aa⟩:=hc.at_ h
       have AZ:(a.eval x).cells[f.offset]? =some v:=by rw [<-Array.getElem?_toList];exact I
       refine ⟨v,fun w'=>?_,aa⟩
       simp only [bd,execOp,ap,Instr.field,Sem.run_bind,run_underlying bf,Result.andThen_ok,bh]
       rw [ag]
       simp [asAgg,part,yz.1,AZ]
     | true=>
       simp only [kZ] at h
       split at h
       · rename_i ah
         simp only [Option.some.injEq] at h
         subst h
         have hle:=Nat.le_of_ble_eq_true ah
         have hlen:=hc.len
         refine ⟨.agg ⟨((a.eval x).cells.toList.drop f.offset).take n⟩,fun w'=>?_,?_⟩
         · simp only [bd,execOp,ap,Instr.field,Sem.run_bind,run_underlying bf,Result.andThen_ok,bh]
           rw [ag]
           simp only [asAgg,part,Sem.run_bind,Sem.run_pure,yz.1,yz.2,Result.andThen_ok,if_true]
           congr 2
           apply congrArg Value.agg
           rw [<-Array.toList_inj]
           simp [List.extract_eq_take_drop,Nat.add_sub_cancel_left,Value.cells]
         · simp only [au]
           exact ⟨_,rfl,a3.take n (a3.drop _ hc)⟩
       · cases h
   · exact h.elim
 · exact h.elim
end
end bz
namespace bz
open Go Go.RowKit av J
structure cz (El:Nat->Type) where
 a_:List (Nat × aI El)
 gs:List (Nat × Nat × Bool × aI El)
 dX:List (Nat × Bool)
def Bt {El:Nat->Type}:List (Nat × Nat × Bool × aI El)->List (Nat × Bool)->Nat->Option (aI El)
 | [],_,_=>none
 | p::r,cur,t=>match Nat.beq p.1 t && ym cur p.2.1 p.2.2.1 with
   | true=>some p.2.2.2
   | false=>Bt r cur t
def v' {El:Nat->Type}:List (Nat × Nat × Bool × aI El)->Nat->List (Nat × Nat × Bool × aI El)
 | [],_=>[]
 | p::r,d=>match Nat.beq p.1 d || Nat.beq p.2.1 d with
   | true=>v' r d
   | false=>p::v' r d
structure mE (T:b3) (F:Nat->Prop) (w:World) (ρ:List Value) (bl:List (aF T.El)) (n:cI) (f:cz T.El) (a:Act):Prop where
 ic:qd T F w ρ bl n f.a_ a
 gs:∀ p ∈ f.gs,a.tmps.getD p.2.1 undef= .bool p.2.2.1 ->au T F w ρ bl p.2.2.2 (a.tmps.getD p.1 undef)
 dX:∀ p ∈ f.dX,a.tmps.getD p.1 undef= .bool p.2
section
variable {T:b3} {F F':Nat->Prop} {w w':World} {ρ ρ':List Value} {bl bl':List (aF T.El)} {n:cI} {f:cz T.El} {a:Act}
theorem mE.later (az:∀ k,F k->F' k/\w'.heap[k]? =w.heap[k]?) (ak:lK T ρ ρ' bl bl') (h:mE T F w ρ bl n f a):mE T F' w' ρ' bl' n f a:=⟨h.ic.later az ak,fun p aD ah=>(h.gs p aD ah).later az ak,h.dX⟩
theorem Qq (h:mE T F w ρ bl n f a) {cur:List (Nat × Bool)} (hc:iN a cur):∀ {gs:List (Nat × Nat × Bool × aI T.El)} {t:Nat} {y:aI T.El},(∀ p ∈ gs,p ∈ f.gs)->Bt gs cur t=some y->au T F w ρ bl y (a.tmps.getD t undef)
 | [],_,_,_,aa=>by simp [Bt] at aa
 | p::r,t,y,I,aa=>by
   simp only [Bt] at aa
   split at aa
   · rename_i ah
     simp only [Bool.and_eq_true,Option.some.injEq] at ah aa
     subst aa
     have:=h.gs p (I p (by simp)) (Yp hc ah.2)
     rwa [Nat.eq_of_beq_eq_true ah.1] at this
   · exact Qq h hc (fun q aQ=>I q (by simp [aQ])) aa
theorem SM {d:Nat} {p:Nat × Nat × Bool × aI T.El}:∀ {gs:List (Nat × Nat × Bool × aI T.El)},p ∈ v' gs d->p ∈ gs/\p.1 ≠d/\p.2.1 ≠d
 | [],h=>by simp [v'] at h
 | q::r,h=>by
   simp only [v'] at h
   split at h
   · obtain ⟨I,aa⟩:=SM h;exact ⟨by simp [I],aa⟩
   · rename_i ah
     simp only [Bool.or_eq_false_iff] at ah
     rcases List.mem_cons.1 h with rfl | h
     · exact ⟨by simp,fun e=>by rw [e] at ah;simp at ah,fun e=>by rw [e] at ah;simp at ah⟩
     · obtain ⟨I,aa⟩:=SM h;exact ⟨by simp [I],aa⟩
theorem SL {α:Type} {d:Nat} {p:Nat × α}:∀ {l:List (Nat × α)},p ∈ ms l d->p ∈ l/\p.1 ≠d
 | [],h=>by simp [ms] at h
 | q::r,h=>by
   simp only [ms] at h
   split at h
   · obtain ⟨I,aa⟩:=SL h;exact ⟨by simp [I],aa⟩
   · rename_i ah
     rcases List.mem_cons.1 h with rfl | h
     · exact ⟨by simp,fun e=>by rw [e] at ah;simp at ah⟩
     · obtain ⟨I,aa⟩:=SL h;exact ⟨by simp [I],aa⟩
def cz.put (f:cz T.El) (d:Nat) (y:aI T.El):cz T.El:=⟨(d,y)::ms f.a_ d,v' f.gs d,ms f.dX d⟩
def cz.oB (f:cz T.El) (d j:Nat) (b:Bool) (y:aI T.El):cz T.El:=⟨ms f.a_ d,(d,j,b,y)::v' f.gs d,ms f.dX d⟩
theorem mE.aa2 {d:Nat} {v:Value} (h:mE T F w ρ bl n f a) (aL:Nat.blt d n.n=true):(∀ p ∈ v' f.gs d,(a.put (some d) v).tmps.getD p.2.1 undef= .bool p.2.2.1 ->au T F w ρ bl p.2.2.2 ((a.put (some d) v).tmps.getD p.1 undef))/\ ∀ p ∈ ms f.dX d,(a.put (some d) v).tmps.getD p.1 undef= .bool p.2 :=by
 have bs:d <a.tmps.size:=by rw [h.ic.size];exact Nat.le_of_ble_eq_true aL
 refine ⟨fun p aD ah=>?_,fun p aD=>?_⟩
 · obtain ⟨I,aa,aq⟩:=SM aD
   rw [yd bs,if_neg (Ne.symm aq)] at ah
   rw [yd bs,if_neg (Ne.symm aa)]
   exact h.gs p I ah
 · obtain ⟨I,aa⟩:=SL aD
   rw [yd bs,if_neg (Ne.symm aa)]
   exact h.dX p I
theorem mE.put {d:Nat} {y:aI T.El} {v:Value} (h:mE T F w ρ bl n f a) (aL:Nat.blt d n.n=true) (ag:au T F w ρ bl y v):mE T F w ρ bl n (f.put d y) (a.put (some d) v):=by
 obtain ⟨I,aa⟩:=h.aa2 (v:=v) aL
 refine ⟨⟨(h.ic.put aL ag).size,(h.ic.put aL ag).defers,fun t z aj=>(h.ic.put aL ag).get t z ?_⟩,I,aa⟩
 simp only [cz.put,ev] at aj ⊢
 split at aj
 · exact aj
 · exact (I0 aj).2
theorem mE.oB {d j:Nat} {b:Bool} {y:aI T.El} {v:Value} (h:mE T F w ρ bl n f a) (aL:Nat.blt d n.n=true) (b2:Nat.beq j d=false) (ag:a.tmps.getD j undef= .bool b->au T F w ρ bl y v):mE T F w ρ bl n (f.oB d j b y) (a.put (some d) v):=by
 obtain ⟨I,aa⟩:=h.aa2 (v:=v) aL
 have bs:d <a.tmps.size:=by rw [h.ic.size];exact Nat.le_of_ble_eq_true aL
 have apC:d≠j:=fun e=>by subst e;simp at b2
 refine ⟨h.ic.J7 aL,fun p aD ah=>?_,aa⟩
 rcases List.mem_cons.1 aD with rfl | aD
 · simp only at ah ⊢
   rw [yd bs,if_neg apC] at ah
   rw [yd bs,if_pos rfl]
   exact ag ah
 · exact I p aD ah
end
def cR (E:Env) (bl:List (aF E.T.El)) (f:cz E.T.El) (cur:List (Nat × Bool)):Operand->Option (aI E.T.El)
 | .const v=>some (.p v)
 | .global g=>ev E.dR g
 | .func g=>some (.f (.func g) [])
 | .tmp t=>match ev f.a_ t with
   | some y=>some (nm bl y)
   | none=>match Bt f.gs cur t with
     | some y=>some (nm bl y)
     | none=>match Bt f.gs f.dX t with
       | some y=>some (nm bl y)
       | none=>none
def oz (E:Env) (bl:List (aF E.T.El)) (f:cz E.T.El) (cur:List (Nat × Bool)):List Operand->Option (List (aI E.T.El))
 | []=>some []
 | x::r=>match cR E bl f cur x,oz E bl f cur r with
   | some y,some ys=>some (y::ys)
   | _,_=>none
def EV (E:Env) (bl:List (aF E.T.El)) (f:cz E.T.El) (cur:List (Nat × Bool)):Option Operand->Option (Option (aI E.T.El))
 | none=>some none
 | some x=>match cR E bl f cur x with
   | some y=>some (some y)
   | none=>none
def BE (E:Env) (bl:List (aF E.T.El)) (f:cz E.T.El) (cur:List (Nat × Bool)):List (Nat × Operand)->Option (List (Nat × aI E.T.El))
 | []=>some []
 | (i,x)::r=>match cR E bl f cur x,BE E bl f cur r with
   | some y,some ys=>some ((i,y)::ys)
   | _,_=>none
structure R (E:Env) (W:World) (M0:List Nat) (X:Nat->Prop) (n:cI) (f:cz E.T.El) (bl:List (aF E.T.El)) (ρ:List Value) (a:Act) (w:World):Prop where
 mem:Mem E.T W M0 X bl ρ w
 gR:mE E.T (bi X bl ρ w) w ρ bl n f a
 dR:∀ g y,ev E.dR g=some y->au E.T (bi X bl ρ w) w ρ bl y (.pointer (some ⟨g,0,none⟩))
section
variable {E:Env} {W w w':World} {M0:List Nat} {X:Nat->Prop} {n:cI} {f:cz E.T.El} {bl bl':List (aF E.T.El)} {ρ ρ':List Value} {a:Act} {cur:List (Nat × Bool)}
theorem R.to (h:R E W M0 X n f bl ρ a w) (aJ:To X bl bl' ρ ρ' w w') (hm:Mem E.T W M0 X bl' ρ' w'):R E W M0 X n f bl' ρ' a w':=⟨hm,h.gR.later aJ.F aJ.L,fun g y aw=>aJ.v (h.dR g y aw)⟩
theorem R.put {d:Nat} {y:aI E.T.El} {v:Value} (h:R E W M0 X n f bl ρ a w) (aL:Nat.blt d n.n=true) (ag:au E.T (bi X bl ρ w) w ρ bl y v):R E W M0 X n (f.put d y) bl ρ (a.put (some d) v) w:=⟨h.mem,h.gR.put aL ag,h.dR⟩
theorem V9 {a:Act}:∀ {l:List (Nat × Bool)},(∀ p ∈ l,a.tmps.getD p.1 undef= .bool p.2)->iN a l
 | [],_=>trivial
 | p::r,h=>⟨h p (by simp),V9 fun q aQ=>h q (by simp [aQ])⟩
theorem dg (h:R E W M0 X n f bl ρ a w) (hc:iN a cur) {x:Operand} {y:aI E.T.El} (ad:cR E bl f cur x=some y):au E.T (bi X bl ρ w) w ρ bl y (a.eval x):=by
 cases x with
 | const v=>simp only [cR,Option.some.injEq] at ad;subst ad;simp only [au];rfl
 | global g=>exact h.dR g y ad
 | func g=>simp only [cR,Option.some.injEq] at ad;subst ad;simp only [au];exact ⟨[],rfl,by simp [a3]⟩
 | tmp t=>
   simp only [cR] at ad
   split at ad
   · rename_i z aj
     simp only [Option.some.injEq] at ad
     subst ad
     exact Js h.mem (h.gR.ic.get t z aj)
   · split at ad
     · rename_i z aj
       simp only [Option.some.injEq] at ad
       subst ad
       exact Js h.mem (Qq h.gR hc (fun p aD=>aD) aj)
     · split at ad
       · rename_i z aj
         simp only [Option.some.injEq] at ad
         subst ad
         exact Js h.mem (Qq h.gR (V9 h.gR.dX) (fun p aD=>aD) aj)
       · cases ad
theorem BF (h:R E W M0 X n f bl ρ a w) (hc:iN a cur):∀ {xs:List Operand} {ys:List (aI E.T.El)},oz E bl f cur xs=some ys->a3 E.T (bi X bl ρ w) w ρ bl ys (xs.map a.eval)
 | [],ys,ad=>by simp only [oz,Option.some.injEq] at ad;subst ad;simp [a3]
 | x::r,ys,ad=>by
   simp only [oz] at ad
   split at ad
   · rename_i y dP I aa
     simp only [Option.some.injEq] at ad
     subst ad
     simp only [List.map_cons,a3]
     exact ⟨_,_,rfl,dg h hc I,BF h hc aa⟩
   · cases ad
theorem aav (h:R E W M0 X n f bl ρ a w) (hc:iN a cur) {x:Option Operand} {y:Option (aI E.T.El)} (ad:EV E bl f cur x=some y):x2 E (bi X bl ρ w) w ρ bl a x y:=by
 cases x with
 | none=>simp only [EV,Option.some.injEq] at ad;subst ad;trivial
 | some x=>
   simp only [EV] at ad
   split at ad
   · rename_i z aj
     simp only [Option.some.injEq] at ad
     subst ad
     exact dg h hc aj
   · cases ad
theorem Q2 (h:R E W M0 X n f bl ρ a w) (hc:iN a cur):∀ {xs:List (Nat × Operand)} {ys:List (Nat × aI E.T.El)},BE E bl f cur xs=some ys->o2 E.T (bi X bl ρ w) w ρ bl ys (xs.map fun p=>(p.1,a.eval p.2))
 | [],ys,ad=>by simp only [BE,Option.some.injEq] at ad;subst ad;simp [o2]
 | (i,x)::r,ys,ad=>by
   simp only [BE] at ad
   split at ad
   · rename_i y dP I aa
     simp only [Option.some.injEq] at ad
     subst ad
     simp only [List.map_cons,o2]
     exact ⟨_,_,rfl,dg h hc I,Q2 h hc aa⟩
   · cases ad
end
def M9 (E:Env) (bl:List (aF E.T.El)) (f:cz E.T.El) (cur:List (Nat × Bool)) (c x y:Operand):D (aI E.T.El):=
 match cR E bl f cur c with
 | some (.p (.bool b))=>match E.gG,c with
   | true,_=>match b with
     | true=>.of (cR E bl f cur x)
     | false=>.of (cR E bl f cur y)
   | false,.tmp kK=>match ev f.dX kK with
     | some true=>.of (cR E bl f cur x)
     | some false=>.of (cR E bl f cur y)
     | none=>match cR E bl f ((kK,true)::cur) x,cR E bl f ((kK,false)::cur) y with
       | some u,some v=>Rf E x y b u v
       | _,_=>.no
   | false,_=>.no
 | _=>.no
def Tr:IntKind->Int->Option Int
 | .i64,m=>some (aE m)
 | .u64,m=>some (Cj m)
 | .u8,m=>some ((kl m).toNat:Int)
 | _,_=>none
def MY (P:Program) (s d:Nat):Value->Option Value
 | .int k m=>match jH (P.underlying s),jH (P.underlying d) with
   | some (.i j),some (.i k')=>match k_ j k,Tr k' m with
     | true,some r=>some (.int k' r)
     | _,_=>none
   | _,_=>none
 | _=>none
def Nw (E:Env) (bl:List (aF E.T.El)) (t:Nat) (u:aI E.T.El) (hi oq:Option (aI E.T.El)):D (aI E.T.El):=match mv E.P t,CD hi && CD oq with
 | some (e,n),true=>match Nat.beq n (E.T.ty e).size with
   | true=>match u with
     | .s _ _=>.ok (.q e [])
     | .q _ _=>.ok (.q e [])
     | .r i g=>match Nat.beq g (qE bl i) with
       | true=>.ok (.q e [])
       | false=>.no
     | .p (.slice none 0 0)=>.ok (.p (.slice none 0 0))
     | .p (.slice (some _) 0 _)=>.ok (.q e [])
     | _=>.no
   | false=>.no
 | _,_=>.no
def QY {El:Nat->Type} (bl:List (aF El)):aI El->Bool
 | .s _ (_::_)=>true
 | .q _ (_::_)=>true
 | .p (.slice (some _) _ _)=>true
 | .r i g=>match nth bl i with
   | some (.r _ bB _ (_::_))=>Nat.beq g bB
   | _=>false
 | _=>false
def Jr {El:Nat->Type}:aI El->Bool
 | .p (.slice none _ _)=>true
 | _=>false
def M7 (P:Program) {El:Nat->Type} (bl:List (aF El)) (t:Nat) (op:BinOp) (u v:aI El):Option Bool:=match jH (P.underlying t),Jr v,zl op true with
 | some .cf,true,some b=>match Jr u with
   | true=>some b
   | false=>match QY bl u with
     | true=>some (!b)
     | false=>none
 | _,_,_=>none
def AP (E:Env) (bl:List (aF E.T.El)) (f:cz E.T.El) (cur:List (Nat × Bool)):Op->D (aI E.T.El)
 | .move x=>.of (cR E bl f cur x)
 | .assign x=>.of (cR E bl f cur x)
 | .pick c x y=>M9 E bl f cur c x y
 | .binOp op t x y _=>match cR E bl f cur x,cR E bl f cur y with
   | some u,some v=>match M7 E.P bl t op u v with
     | some b=>.ok (.p (.bool b))
     | none=>MT E t op (Et y) u v
   | _,_=>.no
 | .unOp .not _ x=>match cR E bl f cur x with
   | some (.p (.bool p))=>.ok (.p (.bool (!p)))
   | _=>.no
 | .unOp .neg _ x=>match cR E bl f cur x with
   | some (.p (.int .i64 m))=>.ok (.p (.int .i64 (aE (0 - m))))
   | _=>.no
 | .convert s d x=>match cR E bl f cur x with
   | some (.p u)=>match MY E.P s d u with
     | some r=>.ok (.p r)
     | none=>.no
   | _=>.no
 | .load t x=>match cR E bl f cur x with
   | some p=>AO E bl t p
   | none=>.no
 | .fieldAddr s x j=>match cR E bl f cur x,HI E.P s j with
   | some p,some (off,_,_)=>match JI (qE bl) p with
     | true=>.of (Rk p off)
     | false=>.no
   | _,_=>.no
 | .nilCheck x=>match cR E bl f cur x with
   | some p=>match IH p with
     | true=>.ok p
     | false=>.no
   | none=>.no
 | .extract x i=>match cR E bl f cur x with
   | some (.u l)=>.of (nth l i)
   | _=>.no
 | .makeFunc fn ⟨[]⟩ ⟨ys⟩=>match oz E bl f cur ys with
   | some us=>.ok (.f fn us)
   | none=>.no
 | .makeFunc fn ⟨xs⟩ ⟨[]⟩=>match oz E bl f cur xs with
   | some us=>.ok (.h fn us)
   | none=>.no
 | .makeInterface t x=>match cR E bl f cur x,E.P.concrete t with
   | some y,true=>.ok (.i t y)
   | _,_=>.no
 | .indexAddr t x y=>match cR E bl f cur x,cR E bl f cur y with
   | some u,some v=>MZ E bl t u v
   | _,_=>.no
 | .index t x y=>match cR E bl f cur x,cR E bl f cur y,jH (E.P.underlying t) with
   | some (.p (.string ⟨⟨p⟩⟩)),some (.p (.int .i64 j)),some .s=>.op (idx p j) fun b=>.ok (.p (.int .u8 (b.toNat:Int)))
   | _,_,_=>.no
 | .slice t x lo hi none=>match cR E bl f cur x,EV E bl f cur lo,EV E bl f cur hi with
   | some u,some a,some b=>MX E bl t u a b
   | _,_,_=>.no
 | .slice t x none (some hi) (some oq)=>match cR E bl f cur x,cR E bl f cur hi,cR E bl f cur oq with
   | some u,some a,some b=>Nw E bl t u (some a) (some b)
   | _,_,_=>.no
 | .lookup t x y ok=>match cR E bl f cur x,cR E bl f cur y with
   | some u,some v=>M5 E bl t ok u v
   | _,_=>.no
 | .field t x j=>match cR E bl f cur x with
   | some u=>M8 E t j u
   | none=>.no
 | .build t ⟨ps⟩=>match BE E bl f cur ps with
   | some ys=>MU E t ys
   | none=>.no
 | .call ⟨.builtin .len,⟨[x]⟩,⟨[t]⟩⟩=>match cR E bl f cur x with
   | some u=>match mapOf E.P t with
     | some _=>M4 E bl t u
     | none=>M3 E bl t u
   | none=>.no
 | .call ⟨.builtin .cap,⟨[x]⟩,⟨[t]⟩⟩=>match mv E.P t,cR E bl f cur x with
   | some _,some (.p (.slice _ _ c))=>.ok (.p (.int .i64 (c:Int)))
   | _,_=>.no
 | _=>.no
def oi (E:Env) (bl:List (aF E.T.El)) (f:cz E.T.El) (cur:List (Nat × Bool)):Op->Option (Option Nat)
 | .load _ x=>match cR E bl f cur x with
   | some p=>some (Ql p)
   | none=>none
 | .lookup _ x _ _=>match cR E bl f cur x with
   | some u=>some (zc u)
   | none=>none
 | .call ⟨.builtin .len,⟨[x]⟩,⟨[t]⟩⟩=>match mapOf E.P t,cR E bl f cur x with
   | some _,some u=>some (zc u)
   | _,_=>none
 | _=>none
def uw (P:Program) (o:Oper) (a:Act) (X:Nat->Prop) {El:Nat->Type} (bl:List (aF El)) (ρ:List Value) (w:World) (r:Value):Option (Option Nat)->Prop
 | none=>jK P o a r
 | some i=>∃ (q:Nat) (S:World->Prop),(match i with
  | none=>bi X bl ρ w q
  | some i=>∃ B h,bl[i]? =some B/\ρ[i]? =some h/\q ∈ bw B h)/\S w/\(∀ w',w'.heap[q]? =w.heap[q]? ->S w')/\ ∀ w',S w'->bd P o a w' r w'
theorem uw.now {P:Program} {o:Oper} {a:Act} {X:Nat->Prop} {El:Nat->Type} {bl:List (aF El)} {ρ:List Value} {w:World} {r:Value}:∀ {i:Option (Option Nat)},uw P o a X bl ρ w r i->bd P o a w r w
 | none,h=>h w
 | some _,⟨_,_,_,I,_,aa⟩=>aa w I
end bz
namespace bz
open Go Go.RowKit av J
theorem mi {α:Type} {t:Nat} {y:α}:∀ {l:List (Nat × α)},ev l t=some y->(t,y) ∈ l
 | [],h=>by simp [ev] at h
 | p::r,h=>by
   simp only [ev] at h
   split at h
   · rename_i ah
     simp only [Option.some.injEq] at h
     subst h
     rw [<-Nat.eq_of_beq_eq_true ah]
     simp
   · exact List.mem_cons_of_mem _ (mi h)
section
variable {E:Env} {W w w':World} {M0:List Nat} {X:Nat->Prop} {n:cI} {f:cz E.T.El} {bl:List (aF E.T.El)} {ρ:List Value} {a:Act} {cur:List (Nat × Bool)}
theorem agG {P:Program} {o:Oper} {A:Option Addr} {m c sz t e:Nat} {x hi oq:Operand} (aJ:P.underlying t=some (.slice e)) (ao:∀ w,(Go.sizeOf e).run P w= .ok sz w) (ap:o.op= .slice t x none (some hi) (some oq)) (ad:a.eval x= .slice A m c) (I:a.eval hi= .int .i64 0) (aa:a.eval oq= .int .i64 0) (w:World):bd P o a w (.slice A 0 0) w:=by
 have g8:=axj (P:=P) (w:=w) (A:=A) (m:=m) (c:=c) (j:=0) aJ ao ⟨Int.le_refl _,by omega⟩
 simp only [bd,execOp,ap,ad,Instr.sliceAt,Sem.run_bind,run_underlying aJ,Result.andThen_ok,Option.map_none,Option.map_some,I,aa,g8]
 rfl
theorem auP {F:Nat->Prop} {t:Nat} (A:Option Addr):au E.T F w ρ bl (.q t []) (.slice A 0 0):=by
 simp only [au]
 exact ⟨⟨A,0,rfl,Nat.le_refl _,Nat.zero_le _,fun _=>rfl,fun h=>absurd rfl h⟩,A,rfl⟩
theorem S0 {v:Value} (h:mf v):∃ A m c,v= .slice A m c:=by
 cases v <;> simp [mf] at h
 exact ⟨_,_,_,rfl⟩
theorem an9 (hm:Mem E.T W M0 X bl ρ w) {o:Oper} {t:Nat} {x hi oq:Operand} {u z Kv Kw:aI E.T.El} (h:(Nw E bl t u (some Kv) (some Kw)).out z) (ap:o.op= .slice t x none (some hi) (some oq))
 (ad:au E.T (bi X bl ρ w) w ρ bl u (a.eval x)) (I:au E.T (bi X bl ρ w) w ρ bl Kv (a.eval hi)) (aa:au E.T (bi X bl ρ w) w ρ bl Kw (a.eval oq)):∃ r,jK E.P o a r/\au E.T (bi X bl ρ w) w ρ bl z r:=by
 unfold Nw at h
 split at h
 · rename_i e fD ao ah
   simp only [Bool.and_eq_true] at ah
   have bf:a.eval hi= .int .i64 0 :=by
    rcases LL (lo:=some hi) (u:=some Kv) (show x2 E _ w ρ bl a (some hi) (some Kv) from I) ah.1 with ⟨e,_⟩ | ⟨_,e,k⟩
    · cases e
    · cases e;exact k
   have bh:a.eval oq= .int .i64 0 :=by
    rcases LL (lo:=some oq) (u:=some Kw) (show x2 E _ w ρ bl a (some oq) (some Kw) from aa) ah.2 with ⟨e,_⟩ | ⟨_,e,k⟩
    · cases e
    · cases e;exact k
   obtain ⟨hu,aj⟩:=p2 ao
   have fin:∀ {A:Option Addr} {m c:Nat},a.eval x= .slice A m c->(D.ok (aI.q e ([]:List (E.T.El e)))).out z-> ∃ r,jK E.P o a r/\au E.T (bi X bl ρ w) w ρ bl z r:=fun {A m c} ag h=>by
    have h:aI.q e []=z:=h
    subst h
    exact ⟨_,fun w'=>agG hu aj ap ag bf bh w',auP A⟩
   split at h
   · split at h
     · simp only [au] at ad;obtain ⟨A,c,ag⟩:=kJ _ ad;exact fin ag h
     · simp only [au] at ad;obtain ⟨A,ag⟩:=ad.2;exact fin ag h
     · split at h
       · simp only [au] at ad;obtain ⟨A,m,c,ag⟩:=S0 ad.1;exact fin ag h
       · exact h.elim
     · have h:aI.p (.slice none 0 0)=z:=h
       subst h
       simp only [au] at ad
       exact ⟨_,fun w'=>agG hu aj ap ad bf bh w',by simp only [au]⟩
     · simp only [au] at ad;exact fin ad h
     · exact h.elim
   · exact h.elim
 · exact h.elim
theorem ays {k:IntKind} {m r:Int} (h:Tr k m=some r):k.wrap m=r:=by
 unfold Tr at h
 split at h <;> simp only [Option.some.injEq,reduceCtorEq] at h <;> subst h
 · exact tH m
 · rw [IntKind.wrap_u64];rfl
 · exact acD m
theorem anz {P:Program} {o:Oper} {s d:Nat} {x:Operand} {u r:Value} (h:MY P s d u=some r) (ap:o.op= .convert s d x) (ad:a.eval x=u):jK P o a r:=by
 unfold MY at h
 split at h
 · rename_i k m
   split at h
   · rename_i j k' I aa
     split at h
     · rename_i h3 aq a'
       simp only [Option.some.injEq] at h
       subst h
       have:=m8 aq
       subst this
       rw [<-ays a']
       exact fun w=>UE (sN I) (sN aa) ap ad
     · cases h
   · cases h
 · cases h
theorem aq3 {y:Operand} (aj:Et y=true) (k:IntKind) (n:Int) (aA:a.eval y= .int k n):n≠ 0 :=by
 unfold Et at aj
 split at aj
 · rename_i k' fD
   have:a.eval (.const (.int k' fD))= .int k' fD:=rfl
   rw [this] at aA
   injection aA with _ e
   subst e
   simpa using aj
 · cases aj
theorem anL (h:R E W M0 X n f bl ρ a w) (hc:iN a cur) {o:Oper} {c x y:Operand} {z:aI E.T.El} (aj:(M9 E bl f cur c x y).out z) (ap:o.op= .pick c x y):∃ r,jK E.P o a r/\au E.T (bi X bl ρ w) w ρ bl z r:=by
 unfold M9 at aj
 split at aj
 · rename_i b mU
   have jS:=dg h hc mU
   simp only [au] at jS
   have acn:b=true->(D.of (cR E bl f cur x)).out z-> ∃ r,jK E.P o a r/\au E.T (bi X bl ρ w) w ρ bl z r:=fun ah aj=>by
    have:=dg h hc (D.ng aj)
    exact ⟨_,fun w'=>LH ap (by rw [jS,ah]) rfl,this⟩
   have XK:b=false->(D.of (cR E bl f cur y)).out z-> ∃ r,jK E.P o a r/\au E.T (bi X bl ρ w) w ρ bl z r:=fun ah aj=>by
    have:=dg h hc (D.ng aj)
    exact ⟨_,fun w'=>LG ap (by rw [jS,ah]) rfl,this⟩
   split at aj
   · cases b with
     | true=>exact acn rfl aj
     | false=>exact XK rfl aj
   · rename_i kK _
     split at aj
     · rename_i ai
       have:=h.gR.dX _ (mi ai)
       have e:a.eval (.tmp kK)= .bool true:=this
       rw [jS] at e
       exact acn (by injection e) aj
     · rename_i ai
       have:=h.gR.dX _ (mi ai)
       have e:a.eval (.tmp kK)= .bool false:=this
       rw [jS] at e
       exact XK (by injection e) aj
     · split at aj
       · rename_i u v hu ag
         obtain ⟨r,I,aa⟩:=aue (a:=a) (x:=x) (y:=y) aj (fun ah=>dg h (show iN a ((kK,true)::cur) from ⟨by subst ah;exact jS,hc⟩) hu) (fun ah=>dg h (show iN a ((kK,false)::cur) from ⟨by subst ah;exact jS,hc⟩) ag)
         exact ⟨r,fun w'=>aB2 ap jS I,aa⟩
       · exact aj.elim
   · exact aj.elim
 · exact aj.elim
theorem agP {P:Program} {o:Oper} {t t':TypeId} {x y:Operand} {A:Option Addr} {m c eI bC:Nat} {op:BinOp} {b:Bool} (aJ:jH (P.underlying t)=some .cf) (ah:zl op A.isNone=some b) (ap:o.op= .binOp op t x y t') (ad:a.eval x= .slice A m c) (hy:a.eval y= .slice none eI bC) (w:World):bd P o a w (.bool b) w:=by
 obtain ⟨e,hu⟩:=sN aJ
 have h:∀ d:Nat,(Op.equalIn (d+ 1) t (.slice A m c) (.slice none eI bC)).run P w= .ok A.isNone w:=fun d=>by
  cases A <;> simp [Op.equalIn,run_underlying hu]
 cases op <;> simp only [zl,Option.some.injEq,reduceCtorEq] at ah <;> subst ah
 · have aa:(binOp .eql t (.slice A m c) (.slice none eI bC)).run P w= .ok (.bool A.isNone) w:=by
    simp only [binOp]
    simp [Op.equal,Op.maxDepth,h 9999]
   simp only [bd,execOp,ap,ad,hy]
   simp [go_sem,aa]
 · have aa:(binOp .neq t (.slice A m c) (.slice none eI bC)).run P w= .ok (.bool (!A.isNone)) w:=by
    simp only [binOp]
    simp [Op.equal,Op.maxDepth,h 9999]
   simp only [bd,execOp,ap,ad,hy]
   simp [go_sem,aa]
theorem ab9 {α:Type} {T:db α} {F:Nat->Prop} {v:Value} {d:α} {l:List α} (h:(bZ T).rd F w [v] (d::l)):∃ g m c,v= .slice (some g) m c:=by
 obtain ⟨A,c,e,_,_,_,aa⟩:=h
 simp only [List.cons.injEq,and_true] at e
 subst e
 rw [(aa (by simp)).1]
 exact ⟨_,_,_,rfl⟩
theorem atM (hm:Mem E.T W M0 X bl ρ w) {u:aI E.T.El} {v:Value} (h:QY bl u=true) (ag:au E.T (bi X bl ρ w) w ρ bl u v):∃ g m c,v= .slice (some g) m c:=by
 unfold QY at h
 split at h
 · simp only [au] at ag;exact ab9 ag
 · simp only [au] at ag;exact ab9 ag.1
 · simp only [au] at ag;exact ⟨_,_,_,ag⟩
 · split at h
   · rename_i t' bB k d l hi
     rw [cU] at hi
     simp only [au] at ag
     obtain ⟨_,aL,bk,bH,bU⟩:=ag
     rw [hi] at bU
     obtain ⟨A,c,xs,e1,e2,e3⟩:=hm.ok _ _ _ hi bk
     rw [bU (Nat.eq_of_beq_eq_true h),e1]
     rw [e1] at e2
     obtain ⟨g,rfl⟩:=B1 e2 (by simp)
     exact ⟨_,_,_,rfl⟩
   · cases h
 · cases h
theorem aag {F:Nat->Prop} {u:aI E.T.El} {v:Value} (h:Jr u=true) (ag:au E.T F w ρ bl u v):∃ m c,v= .slice none m c:=by
 unfold Jr at h
 split at h
 · simp only [au] at ag;exact ⟨_,_,ag⟩
 · cases h
theorem anJ (hm:Mem E.T W M0 X bl ρ w) {t:Nat} {op:BinOp} {u v:aI E.T.El} {o:Oper} {x y:Operand} {t':TypeId} {b:Bool} (h:M7 E.P bl t op u v=some b) (ap:o.op= .binOp op t x y t') (ad:au E.T (bi X bl ρ w) w ρ bl u (a.eval x)) (hy:au E.T (bi X bl ρ w) w ρ bl v (a.eval y)):jK E.P o a (.bool b):=by
 unfold M7 at h
 split at h
 · rename_i b0 I aa aq
   obtain ⟨eI,bC,HG⟩:=aag aa hy
   split at h
   · rename_i hu
     simp only [Option.some.injEq] at h
     subst h
     obtain ⟨m,c,ex⟩:=aag hu ad
     exact fun w'=>agP (A:=none) I aq ap ex HG w'
   · split at h
     · rename_i hu
       simp only [Option.some.injEq] at h
       subst h
       obtain ⟨g,m,c,ex⟩:=atM hm hu ad
       refine fun w'=>agP (A:=some g) I ?_ ap ex HG w'
       cases op <;> simp only [zl,Option.some.injEq,reduceCtorEq] at aq ⊢ <;> subst aq <;> rfl
     · cases h
 · cases h
theorem Xy (a5:dn E) (h:R E W M0 X n f bl ρ a w) (hc:iN a cur) {o:Oper} {op:Op} (ap:o.op=op) {z:aI E.T.El} (aj:(AP E bl f cur op).out z):∃ r,au E.T (bi X bl ρ w) w ρ bl z r/\uw E.P o a X bl ρ w r (oi E bl f cur op):=by
 have h5:(∃ r,jK E.P o a r/\au E.T (bi X bl ρ w) w ρ bl z r)-> ∃ r,au E.T (bi X bl ρ w) w ρ bl z r/\uw E.P o a X bl ρ w r none:=fun ⟨r,I,aa⟩=>⟨r,aa,I⟩
 unfold AP at aj
 split at aj
 · exact h5 ⟨_,fun w'=>agK ap rfl,dg h hc (D.ng aj)⟩
 · exact h5 ⟨_,fun w'=>agD ap rfl,dg h hc (D.ng aj)⟩
 · exact h5 (anL h hc aj ap)
 · split at aj
   · rename_i u v I aa
     split at aj
     · rename_i b ah
       have aj:aI.p (.bool b)=z:=aj
       subst aj
       exact h5 ⟨_,anJ h.mem ah ap (dg h hc I) (dg h hc aa),by simp only [au]⟩
     · exact h5 (ant a5 aj ap (fun ai=>aq3 ai) (dg h hc I) (dg h hc aa))
   · exact aj.elim
 · split at aj
   · rename_i p I
     have aj:aI.p (.bool (!p))=z:=aj
     subst aj
     have:=dg h hc I
     simp only [au] at this
     exact h5 ⟨_,fun w'=>agM ap this,by simp only [au]⟩
   · exact aj.elim
 · split at aj
   · rename_i m I
     have aj:aI.p (.int .i64 (aE (0 - m)))=z:=aj
     subst aj
     have:=dg h hc I
     simp only [au] at this
     exact h5 ⟨_,fun w'=>aB0 ap this,by simp only [au]⟩
   · exact aj.elim
 · split at aj
   · rename_i u I
     split at aj
     · rename_i r aa
       have aj:aI.p r=z:=aj
       subst aj
       have:=dg h hc I
       simp only [au] at this
       exact h5 ⟨_,anz aa ap this,by simp only [au]⟩
     · exact aj.elim
   · exact aj.elim
 · rename_i t x
   split at aj
   · rename_i p I
     obtain ⟨ea,us,v,bf,bh,ca,c6,m7⟩:=anG a5.tb h.mem (dg h hc I) aj
     refine ⟨v,bh,?_⟩
     simp only [oi,I,uw]
     refine ⟨ea.block,fun w'=>eT w' ea us,?_,ca,fun w' hw=>ca.law hw,fun w' hw=>c6 o a x w' ap bf hw⟩
     revert m7
     cases Ql p <;> exact fun h=>h
   · exact aj.elim
 · split at aj
   · rename_i p off n4 sz I aa
     split at aj
     · rename_i aD
       obtain ⟨g,q,e1,e2⟩:=auq aD (D.ng aj) (dg h hc I)
       obtain ⟨cq,fd,bf,bh,ca,c6,m7,vm⟩:=XL aa
       subst ca
       exact h5 ⟨_,fun w'=>agF bf bh m7 vm ap e1,e2⟩
     · exact aj.elim
   · exact aj.elim
 · split at aj
   · rename_i p I
     split at aj
     · rename_i aD
       have aj:p=z:=aj
       subst aj
       have:=dg h hc I
       obtain ⟨q,e⟩:=Zq aD this
       exact h5 ⟨_,fun w'=>agL ap e,by rw [<-e];exact this⟩
     · exact aj.elim
   · exact aj.elim
 · split at aj
   · rename_i l I
     have:=dg h hc I
     simp only [au] at this
     obtain ⟨vs,e1,e2⟩:=this
     have hi:=D.ng aj
     rw [cU] at hi
     obtain ⟨v,e3,e4⟩:=e2.at_ hi
     exact h5 ⟨v,fun w'=>agE (vs:=vs) ap e1 e3,e4⟩
   · exact aj.elim
 · split at aj
   · rename_i us I
     have aj:aI.f _ us=z:=aj
     subst aj
     have:=BF h hc I
     refine h5 ⟨_,fun w'=>?_,by simp only [au];exact ⟨_,rfl,this⟩⟩
     simp only [bd,execOp,ap,Instr.makeFunc]
     simp only [List.map_toArray,List.map_nil]
     rfl
   · exact aj.elim
 · split at aj
   · rename_i us I
     have aj:aI.h _ us=z:=aj
     subst aj
     have:=BF h hc I
     refine h5 ⟨_,fun w'=>?_,by simp only [au];exact ⟨_,rfl,this⟩⟩
     simp only [bd,execOp,ap,Instr.makeFunc]
     simp only [List.map_toArray,List.map_nil]
     rfl
   · exact aj.elim
 · split at aj
   · rename_i y I aa
     have aj:aI.i _ y=z:=aj
     subst aj
     exact h5 ⟨_,fun w'=>aBP aa ap rfl,by simp only [au];exact ⟨_,rfl,dg h hc I⟩⟩
   · exact aj.elim
 · split at aj
   · rename_i u v I aa
     exact h5 (anB h.mem aj ap (dg h hc I) (dg h hc aa))
   · exact aj.elim
 · split at aj
   · rename_i p j I aa aq
     obtain ⟨b,bf,bh⟩:=aj
     have bh:aI.p (.int .u8 (b.toNat:Int))=z:=bh
     subst bh
     have e1:=dg h hc I
     have e2:=dg h hc aa
     simp only [au] at e1 e2
     exact h5 ⟨_,fun w'=>aBR (sN aq) ap e1 e2 bf,by simp only [au]⟩
   · exact aj.elim
 · split at aj
   · rename_i u lo hi I aa aq
     exact h5 (anx h.mem aj ap (dg h hc I) (aav h hc aa) (aav h hc aq))
   · exact aj.elim
 · split at aj
   · rename_i u lo hi I aa aq
     exact h5 (an9 h.mem aj ap (dg h hc I) (dg h hc aa) (dg h hc aq))
   · exact aj.elim
 · split at aj
   · rename_i u v I aa
     obtain ⟨r,q,e1,e2,e3⟩:=anH a5 h.mem aj ap (dg h hc I) (dg h hc aa)
     refine ⟨r,e1,?_⟩
     simp only [oi,I,uw]
     refine ⟨q,fun w'=>w'.heap[q]? =w.heap[q]?,?_,rfl,fun w' hw=>hw,e3⟩
     revert e2
     cases zc u <;> exact fun h=>h
   · exact aj.elim
 · split at aj
   · rename_i u I
     exact h5 (anK aj ap (dg h hc I))
   · exact aj.elim
 · split at aj
   · rename_i ys I
     obtain ⟨v,e1,e2⟩:=anu (Q2 h hc I) aj
     exact h5 ⟨v,fun w'=>e2 o a _ w' ap rfl,e1⟩
   · exact aj.elim
 · split at aj
   · rename_i x t _ u I
     split at aj
     · rename_i IP ai
       obtain ⟨r,q,e1,e2,e3⟩:=anE h.mem aj ap (dg h hc I)
       refine ⟨r,e1,?_⟩
       simp only [oi,ai,I,uw]
       refine ⟨q,fun w'=>w'.heap[q]? =w.heap[q]?,?_,rfl,fun w' hw=>hw,e3⟩
       revert e2
       cases zc u <;> exact fun h=>h
     · rename_i ai
       have:=h5 (anF h.mem aj ap (dg h hc I))
       simpa only [oi,ai] using this
   · exact aj.elim
 · split at aj
   · rename_i e A m c ao I
     have aj:aI.p (.int .i64 (c:Int))=z:=aj
     subst aj
     have ag:=dg h hc I
     simp only [au] at ag
     exact h5 ⟨_,fun w'=>aBH (p2 (e:=e.1) (n:=e.2) ao).1 ap ag,by simp only [au]⟩
   · exact aj.elim
 · exact aj.elim
end
end bz
namespace bz
open Go Go.RowKit av J
structure eg (El:Nat->Type) where
 y:Option (aI El)
 bl:List (aF El)
 ws:List Nat
section
variable {T:b3} {W w w':World} {M0:List Nat} {X:Nat->Prop} {bl:List (aF T.El)} {ρ:List Value}
theorem Mem.aar (hm:Mem T W M0 X bl ρ w) {k:Nat} (h:nM bl ρ k): ¬ X k:=fun ad=>by
 have I:=hm.hz k ad
 rcases (hm.lt k h).2 with e | e
 · exact I.2 e
 · omega
theorem B6 {α:Type} {l:List α} {i:Nat} {x:α} (h:l[i]? =some x):l.set i x=l:=by
 obtain ⟨I,aa⟩:=List.getElem?_eq_some_iff.1 h
 rw [<-aa,List.set_getElem_self]
theorem Mem.freeze (hm:Mem T W M0 X bl ρ w) {i t g k:Nat} {l:List (T.El t)} (hi:bl[i]? =some (.r t g k l)):Mem T W M0 X (bl.set i (.z t g k l)) ρ w/\To X bl (bl.set i (.z t g k l)) ρ ρ w w:=by
 obtain ⟨h,bu⟩:=hm.Bp hi
 have aJ:=hm.Cb (B':=aF.z t g k l) (h':=h) (w':=w) hi bu (bp.refl _ _) (fun q aQ=>by simp [bw] at aQ) ⟨fun _=>rfl,Nat.le_refl _,fun _=>⟨rfl,rfl,Nat.le_refl _,fun _=>rfl⟩⟩
 have dV:=hm.ej (B':=aF.z t g k l) (h':=h) (w':=w) hi bu (bp.refl _ _) (fun q aQ=>by simp [bw] at aQ) aJ (by
  obtain ⟨A,c,xs,rfl,aa,aq⟩:=hm.ok i _ _ hi bu
  obtain ⟨c1,c2,c3,c4⟩:=aa.cap
  refine ⟨A,c,rfl,c1,c2,c3,fun b2=>?_⟩
  have gS:0 <l.length:=List.length_pos_iff.2 b2
  obtain ⟨dS,rfl,sq,hc,jU⟩:=rp gS aa
  refine ⟨rfl,?_,xs,mq _ aJ.F aq,by simpa [di,f_] using hc⟩
  have jV:nM bl ρ dS:=⟨i,_,_,hi,bu,by simp only [bw];rw [jU];simp⟩
  refine ⟨by simpa [di] using hm.aar jV,?_,by simpa [di] using (hm.lt dS jV).1⟩
  rintro ⟨j,B,g',aC,aw,ai⟩
  by_cases e:j=i
  · subst e
    rw [List.getElem?_set_self (List.getElem?_eq_some_iff.1 hi).1] at aC
    cases aC
    simp [bw] at ai
  · rw [List.getElem?_set_ne (Ne.symm e)] at aC
    rw [List.getElem?_set_ne (Ne.symm e)] at aw
    exact hm.br i j _ _ _ _ hi bu aC aw (Ne.symm e) dS (by simp only [bw];rw [jU];simp) (by simpa [di] using ai))
 rw [B6 bu] at dV aJ
 exact ⟨dV,aJ⟩
end
def fH {El:Nat->Type} (bl:List (aF El)):aI El->List (aF El) × aI El
 | .r i g=>match nth bl i with
   | some (.r t bB k l)=>match Nat.beq g bB with
     | true=>(bl.set i (.z t bB k l),.s t l)
     | false=>(bl,.r i g)
   | some (.z t bB _ l)=>match Nat.beq g bB with
     | true=>(bl,.s t l)
     | false=>(bl,.r i g)
   | _=>(bl,.r i g)
 | .q t l=>(bl,.s t l)
 | y=>(bl,y)
def lY {El:Nat->Type}:List (aF El)->List (aI El)->List (aF El) × List (aI El)
 | bl,[]=>(bl,[])
 | bl,y::r=>match fH bl y with
   | (bl',fz)=>match lY bl' r with
     | (r9,h3)=>(r9,fz::h3)
section
variable {T:b3} {W w w':World} {M0:List Nat} {X:Nat->Prop} {bl:List (aF T.El)} {ρ:List Value}
theorem XT (hm:Mem T W M0 X bl ρ w) {y fz:aI T.El} {bl':List (aF T.El)} {v:Value} (h:fH bl y=(bl',fz)) (ag:au T (bi X bl ρ w) w ρ bl y v):Mem T W M0 X bl' ρ w/\To X bl bl' ρ ρ w w/\au T (bi X bl' ρ w) w ρ bl' fz v:=by
 have same:∀ {u:aI T.El},(bl,u)=(bl',fz)->au T (bi X bl ρ w) w ρ bl u v->Mem T W M0 X bl' ρ w/\To X bl bl' ρ ρ w w/\au T (bi X bl' ρ w) w ρ bl' fz v:=fun {u} h hu=>by
  simp only [Prod.mk.injEq] at h
  obtain ⟨rfl,rfl⟩:=h
  exact ⟨hm,.refl,hu⟩
 unfold fH at h
 split at h
 · rename_i i g
   split at h
   · rename_i t bB k l hi
     rw [cU] at hi
     split at h
     · rename_i ah
       have ah:=Nat.eq_of_beq_eq_true ah
       subst ah
       simp only [Prod.mk.injEq] at h
       obtain ⟨rfl,rfl⟩:=h
       obtain ⟨I,aa⟩:=hm.freeze hi
       refine ⟨I,aa,?_⟩
       have fc:=aa.v ag
       simp only [au] at fc ⊢
       obtain ⟨_,aL,bk,bH,bU⟩:=fc
       have cL:(bl.set i (aF.z t g k l))[i]? =some (aF.z t g k l):=List.getElem?_set_self (List.getElem?_eq_some_iff.1 hi).1
       rw [cL] at bU
       rw [bU rfl]
       exact I.ok i _ _ cL bk
     · exact same h ag
   · rename_i t bB k l hi
     rw [cU] at hi
     split at h
     · rename_i ah
       refine same h ?_
       have:=Js hm ag
       simp only [nm,cU,hi,ah] at this
       exact this
     · exact same h ag
   · exact same h ag
 · refine same h ?_
   simp only [au] at ag ⊢
   exact ag.1
 · exact same h ag
theorem HP:∀ {ys dP:List (aI T.El)} {bl bl':List (aF T.El)} {vs:List Value},Mem T W M0 X bl ρ w->lY bl ys=(bl',dP)->a3 T (bi X bl ρ w) w ρ bl ys vs->Mem T W M0 X bl' ρ w/\To X bl bl' ρ ρ w w/\a3 T (bi X bl' ρ w) w ρ bl' dP vs
 | [],dP,bl,bl',vs,hm,h,ag=>by
   simp only [lY,Prod.mk.injEq] at h
   obtain ⟨rfl,rfl⟩:=h
   exact ⟨hm,.refl,ag⟩
 | y::r,dP,bl,bl',vs,hm,h,ag=>by
   simp only [a3] at ag
   obtain ⟨u,us,rfl,hu,ay⟩:=ag
   simp only [lY] at h
   cases I:fH bl y with
   | mk bX dk=>
     rw [I] at h
     cases aa:lY bX r with
     | mk eb cJ=>
       rw [aa] at h
       simp only [Prod.mk.injEq] at h
       obtain ⟨rfl,rfl⟩:=h
       obtain ⟨dd,t1,v1⟩:=XT hm I hu
       obtain ⟨dY,t2,v2⟩:=HP dd aa (t1.vs ay)
       refine ⟨dY,t1.trans t2,?_⟩
       simp only [a3]
       exact ⟨u,us,rfl,t2.v v1,v2⟩
end
section
variable {E:Env} {W w w':World} {M0:List Nat} {X:Nat->Prop} {n:cI} {f:cz E.T.El} {bl:List (aF E.T.El)} {ρ:List Value} {a:Act} {cur:List (Nat × Bool)}
def gC (E:Env) (o:Oper) (a:Act) (W:World) (M0:List Nat) (X:Nat->Prop) (bl:List (aF E.T.El)) (ρ:List Value) (w:World) (e:eg E.T.El):Prop:=
 ∃ w' ρ',Mem E.T W M0 X e.bl ρ' w'/\To X bl e.bl ρ ρ' w w'/\(∀ k,k <w.heap.size->(∀ i ∈ e.ws,∀ B h,bl[i]? =some B->ρ[i]? =some h->k ∉ bw B h)->w'.heap[k]? =w.heap[k]?) /\
   match e.y with
   | some y=>∃ v,bd E.P o a w v w'/\au E.T (bi X e.bl ρ' w') w' ρ' e.bl y v
   | none=>o5 E.P o a w w'
theorem aaf (hm:Mem E.T W M0 X bl ρ w) {o:Oper} {t:Nat} {cs:List (aI E.T.El)} {vs:List Value} (ay:a3 E.T (bi X bl ρ w) w ρ bl cs vs) (hy:bd E.P o a w (.pointer (some ⟨w.heap.size,0,none⟩)) (w.alloc (.cells ⟨vs⟩ t))) :
 gC E o a W M0 X bl ρ w ⟨some (.b bl.length 0),bl++[.c t cs],[]⟩:=by
 have ag:bp [] w (w.alloc (.cells ⟨vs⟩ t)):=bp.alloc _ _ _
 have af:∀ k ∈ bw (aF.c t cs) (.pointer (some ⟨w.heap.size,0,none⟩)),w.heap.size<=k/\k <(w.alloc (.cells ⟨vs⟩ t)).heap.size:=fun k ai=>by
  simp only [bw,ah,List.mem_singleton] at ai
  subst ai
  simp
 have aJ:=hm.ww (B:=aF.c t cs) (h:=.pointer (some ⟨w.heap.size,0,none⟩)) ag af
 refine ⟨_,ρ++[.pointer (some ⟨w.heap.size,0,none⟩)],hm.push ag af ⟨_,vs,rfl,heap_alloc_new w _,aJ.vs ay⟩,aJ,fun k ai _=>ag.block k ai (by simp),_,hy,?_⟩
 simp only [au]
 exact ⟨_,by rw [<-hm.len];simp,rfl⟩
theorem atl (hm:Mem E.T W M0 X bl ρ w) {o:Oper} {bP vt:Nat} {K:iL (E.T.El bP)} (cP:(E.T.e bP).key=some K) (hy:bd E.P o a w (.map (some w.heap.size)) (w.alloc (.map #[] 0))) :
 gC E o a W M0 X bl ρ w ⟨some (.m bl.length),bl++[.m bP vt []],[]⟩:=by
 have ag:bp [] w (w.alloc (.map #[] 0)):=bp.alloc _ _ _
 have af:∀ k ∈ bw (aF.m bP vt ([]:List (E.T.El bP × E.T.El vt))) (.map (some w.heap.size)),w.heap.size<=k/\k <(w.alloc (.map #[] 0)).heap.size:=fun k ai=>by
  simp only [bw,ah,List.mem_singleton] at ai
  subst ai
  simp
 have aJ:=hm.ww (B:=aF.m bP vt ([]:List (E.T.El bP × E.T.El vt))) (h:=.map (some w.heap.size)) ag af
 refine ⟨_,ρ++[.map (some w.heap.size)],hm.push ag af ⟨_,rfl,K,cP,#[],0,heap_alloc_new w _,trivial,by simp,by simp⟩,aJ,fun k ai _=>ag.block k ai (by simp),_,hy,?_⟩
 simp only [au]
 exact ⟨_,by rw [<-hm.len];simp,rfl⟩
def Jz {El:Nat->Type}:aI El->Bool
 | .a _=>false
 | .u _=>false
 | .p v=>v.oneCell'
 | _=>true
theorem at4 {F:Nat->Prop} {y:aI E.T.El} {v:Value} (h:Jz y=true) (ag:au E.T F w ρ bl y v):v.oneCell'=true:=by
 cases y with
 | p u=>simp only [au] at ag;subst ag;exact h
 | a l=>simp [Jz] at h
 | b i o=>simp only [au] at ag;obtain ⟨g,_,rfl⟩:=ag;rfl
 | x t d o=>simp only [au] at ag;obtain ⟨_,_,_,rfl,_⟩:=ag;rfl
 | s t l=>simp only [au] at ag;obtain ⟨A,c,e⟩:=kJ _ ag;subst e;rfl
 | q t l=>simp only [au] at ag;obtain ⟨_,A,rfl⟩:=ag;rfl
 | r i g=>simp only [au] at ag;obtain ⟨A,m,c,rfl⟩:=S0 ag.1;rfl
 | v i g lo hi=>simp only [au] at ag;obtain ⟨A,m,c,rfl⟩:=S0 ag.1;rfl
 | e i g k t j d o=>simp only [au] at ag;have:=ag.1;cases v <;> simp [sL] at this;rfl
 | w i g o=>simp only [au] at ag;have:=ag.1;cases v <;> simp [sL] at this;rfl
 | m i=>simp only [au] at ag;obtain ⟨g,_,rfl⟩:=ag;rfl
 | n _ _ _=>simp only [au] at ag;obtain ⟨g,rfl,_⟩:=ag;rfl
 | f fn cs=>simp only [au] at ag;obtain ⟨g,rfl,_⟩:=ag;rfl
 | h fn us=>simp only [au] at ag;obtain ⟨g,rfl,_⟩:=ag;rfl
 | u l=>simp [Jz] at h
 | i t z=>simp only [au] at ag;obtain ⟨g,rfl,_⟩:=ag;rfl
 | pp i g sz ec=>simp only [au] at ag;obtain ⟨_,_,rfl,_⟩:=ag;rfl
 | v9 i g sz q=>simp only [au] at ag;obtain ⟨_,_,_,rfl,_⟩:=ag;rfl
def ts {El:Nat->Type}:List (aI El)->Bool
 | []=>true
 | y::r=>Jz y && ts r
theorem EY {F:Nat->Prop}:∀ {ys:List (aI E.T.El)} {vs:List Value},ts ys=true->a3 E.T F w ρ bl ys vs->vs.all (·.oneCell')=true
 | [],vs,_,ag=>by simp only [a3] at ag;subst ag;rfl
 | y::r,vs,h,ag=>by
   simp only [a3] at ag
   obtain ⟨u,us,rfl,I,aa⟩:=ag
   simp only [ts,Bool.and_eq_true] at h
   simp only [List.all_cons,Bool.and_eq_true]
   exact ⟨at4 h.1 I,EY h.2 aa⟩
theorem IV:∀ (l:List Value) (n:Nat) (cs:List Value),av.lay l n cs=fm l n cs
 | l,0,cs=>by cases l <;> rfl
 | [],n+ 1,cs=>rfl
 | u::l,n+ 1,cs=>by simp only [av.lay,fm,IV l n cs]
def Ko {El:Nat->Type} (bl:List (aF El)) (i:Nat):Bool:=match nth bl i with
 | some (.r _ _ _ _)=>true
 | _=>false
def M_ (E:Env) (bl:List (aF E.T.El)) (t:Nat) (p y:aI E.T.El):D (eg E.T.El):=match lay E.P t,ts (cellsOf y) with
 | some (_,sz),true=>match Nat.beq (cellsOf y).length sz with
   | true=>match p with
     | .b i o=>match nth bl i with
       | some (.c ty cs)=>match Nat.ble (o+(cellsOf y).length) cs.length with
         | true=>.ok ⟨none,bl.set i (.c ty (fm cs o (cellsOf y))),[i]⟩
         | false=>.no
       | _=>.no
     | .e i g k t' j d o=>match nth bl i with
       | some (.r t2 bB bh l)=>match Nat.beq g bB,Nat.beq k bh with
         | true,true=>match lY bl (fm ((E.T.e t').cs d) o (cellsOf y)),Nat.decEq t' t2,Nat.ble (o+(cellsOf y).length) ((E.T.e t').cs d).length with
           | (bl',cs),.isTrue h,true=>match (E.T.e t').gU cs,Ko bl' i with
             | some d',true=>.ok ⟨none,bl'.set i (.r t2 bB (bh+ 1) (l.set j.toNat (h ▸ d'))),[i]⟩
             | _,_=>.no
           | _,_,_=>.no
         | true,false=>.op (idx l j) fun d=>match lY bl (fm ((E.T.e t2).cs d) o (cellsOf y)),Nat.ble (o+(cellsOf y).length) ((E.T.e t2).cs d).length with
           | (bl',cs),true=>match (E.T.e t2).gU cs,Ko bl' i with
             | some d',true=>.ok ⟨none,bl'.set i (.r t2 bB (bh+ 1) (l.set j.toNat d')),[i]⟩
             | _,_=>.no
           | _,_=>.no
         | _,_=>.no
       | _=>.no
     | .w i g o=>match nth bl i with
       | some (.k t2 s2 bB cs)=>match Nat.beq g bB && Nat.ble (o+(cellsOf y).length) cs.length with
         | true=>.ok ⟨none,bl.set i (.k t2 s2 bB (fm cs o (cellsOf y))),[i]⟩
         | false=>.no
       | _=>.no
     | _=>.no
   | false=>.no
 | _,_=>.no
theorem abO {o:Oper} {t g c m sz n q tb:Nat} {x y:Operand} {v:Value} {xs vs:List Value} (ag:v.cells=vs.toArray) (ao:∀ w,(Go.sizeOf t).run E.P w= .ok sz w) (ak:Nat.beq vs.length sz=true) (I:vs.all (·.oneCell')=true)
 (aA:0 <n) (ay:rowIs w tb m (.slice (some ⟨g,0,none⟩) n c) n xs) (hle:q+vs.length<=xs.length) (ap:o.op= .store t x y) (ad:a.eval x= .pointer (some ⟨g,q,none⟩)) (hy:a.eval y=v) :
 ∃ w',o5 E.P o a w w'/\bp [g] w w'/\rowIs w' tb m (.slice (some ⟨g,0,none⟩) n c) n (fm xs q vs):=by
 have hlen:=ay.len
 have ay:=ay.own aA
 rcases ay.2 with ⟨_,aN⟩ | ⟨g',cap,cur,e1,e2,e3,e4,e5,e6,e7⟩
 · omega
 · simp only [Value.slice.injEq,Option.some.injEq,Addr.mk.injEq,and_true,true_and] at e1
   obtain ⟨rfl,rfl⟩:=e1
   have jT:xs.length<=cur.toList.length:=by rw [<-e7,List.length_take];omega
   obtain ⟨w',bf,bh,ca⟩:=UG (tb:=tb) (cs:=cur.toList) ag ao ak I (by simpa using Nat.le_trans hle (by simpa using jT)) (show (a7.dQ g tb cur.toList).ok w by simpa [a7.dQ] using e3) ap ad hy
   refine ⟨w',bf,bh,.inl ⟨by rw [Qj hle,hlen],.inr ⟨g,c,⟨av.lay cur.toList q vs⟩,rfl,e2,ca,e4,e5,?_,?_⟩⟩⟩
   · rw [IV]
     simp only [List.size_toArray]
     rw [Qj (by omega)]
     simpa using e6
   · rw [IV]
     simp only
     subst e7
     rw [s6 _ _ _ (by omega),s6 _ _ _ hle]
     have c8:n*m<=cur.toList.length:=by have:=e6;have gH:n*m<=c*m:=Nat.mul_le_mul_right m e4;simp;omega
     exact S5 (by rw [hlen] at hle;exact hle) c8
theorem ZZ {j n sz o k:Nat} (h:j <n) (aa:o+k<=sz):j*sz+o+k<=n*sz:=by
 have:(j+ 1)*sz<=n*sz:=Nat.mul_le_mul_right sz h
 rw [Nat.add_mul] at this
 omega
end
end bz
namespace bz
open Go Go.RowKit av J
section
variable {E:Env} {W w w':World} {M0:List Nat} {X:Nat->Prop} {n:cI} {f:cz E.T.El} {bl:List (aF E.T.El)} {ρ:List Value} {a:Act} {cur:List (Nat × Bool)}
theorem IC (hm:Mem E.T W M0 X bl ρ w) {o:Oper} {i:Nat} {B B':aF E.T.El} {h:Value} (hi:bl[i]? =some B) (bu:ρ[i]? =some h) (ag:bp (bw B h) w w') (af:bw B' h=bw B h)
 (ak:b1 (some B')=b1 (some B)/\iv E.T (some B')=iv E.T (some B)/\gx (some B)<=gx (some B')/\(gx (some B')=gx (some B)->p0 (some B')=p0 (some B))) (hy:o5 E.P o a w w')
 (bN:To X bl (bl.set i B') ρ ρ w w'->ia E.T (bi X (bl.set i B') ρ w') w' ρ (bl.set i B') B' h):gC E o a W M0 X bl ρ w ⟨none,bl.set i B',[i]⟩:=by
 have dL:∀ k ∈ bw B' h,k ∈ bw B h\/(w.heap.size<=k/\k <w'.heap.size):=fun k ai=>.inl (af ▸ ai)
 have aJ:=hm.Cb (B':=B') (h':=h) hi bu ag dL ⟨fun _=>rfl,by rw [ak.1];exact Nat.le_refl _,fun _=>⟨rfl,ak.2⟩⟩
 have ao:=B6 bu
 have dV:=hm.ej (B':=B') (h':=h) hi bu ag dL aJ (by rw [ao] at aJ ⊢;exact bN aJ)
 rw [ao] at dV aJ
 exact ⟨w',ρ,dV,aJ,fun k ai cM=>ag.block k ai (cM i (by simp) B h hi bu),hy⟩
theorem gC.first {o:Oper} {bl':List (aF E.T.El)} {e:eg E.T.El} (aJ:To X bl bl' ρ ρ w w) (ai:∀ i ∈ e.ws,∀ B' h k,bl'[i]? =some B'->ρ[i]? =some h->k ∈ bw B' h-> ∃ B,bl[i]? =some B/\k ∈ bw B h) (h:gC E o a W M0 X bl' ρ w e):gC E o a W M0 X bl ρ w e:=by
 obtain ⟨w',ρ',I,aa,aq,a'⟩:=h
 refine ⟨w',ρ',I,aJ.trans aa,fun k bs aA=>aq k bs fun i hi B' g ah aw ad=>?_,a'⟩
 obtain ⟨B,bf,bh⟩:=ai i hi B' g k ah aw ad
 exact aA i hi B g bf aw bh
theorem an7 {bl bl':List (aF E.T.El)} {y fz:aI E.T.El} (h:fH bl y=(bl',fz)) (i:Nat):bl'[i]? =bl[i]? \/ ∃ t g k l,bl[i]? =some (.r t g k l)/\bl'[i]? =some (.z t g k l):=by
 unfold fH at h
 split at h
 · rename_i j g
   split at h
   · rename_i t bB k l aC
     rw [cU] at aC
     split at h
     · simp only [Prod.mk.injEq] at h
       obtain ⟨rfl,_⟩:=h
       by_cases e:i=j
       · subst e
         exact .inr ⟨t,bB,k,l,aC,List.getElem?_set_self (List.getElem?_eq_some_iff.1 aC).1⟩
       · exact .inl (List.getElem?_set_ne (Ne.symm e))
     · simp only [Prod.mk.injEq] at h;exact .inl (by rw [h.1])
   · split at h <;> (simp only [Prod.mk.injEq] at h;exact .inl (by rw [h.1]))
   · simp only [Prod.mk.injEq] at h;exact .inl (by rw [h.1])
 · simp only [Prod.mk.injEq] at h;exact .inl (by rw [h.1])
 · simp only [Prod.mk.injEq] at h;exact .inl (by rw [h.1])
theorem HO:∀ {ys dP:List (aI E.T.El)} {bl bl':List (aF E.T.El)},lY bl ys=(bl',dP)-> ∀ i:Nat,bl'[i]? =bl[i]? \/ ∃ t g k l,bl[i]? =some (.r t g k l)/\bl'[i]? =some (.z t g k l)
 | [],dP,bl,bl',h,i=>by
   simp only [lY,Prod.mk.injEq] at h
   exact .inl (by rw [h.1])
 | y::r,dP,bl,bl',h,i=>by
   simp only [lY] at h
   cases I:fH bl y with
   | mk bX dk=>
     rw [I] at h
     cases aa:lY bX r with
     | mk eb cJ=>
       rw [aa] at h
       simp only [Prod.mk.injEq] at h
       obtain ⟨rfl,_⟩:=h
       rcases an7 I i with e1 | ⟨t,g,k,l,e1,e2⟩
       · rcases HO aa i with e3 | ⟨t,g,k,l,e3,e4⟩
         · exact .inl (e3.trans e1)
         · exact .inr ⟨t,g,k,l,by rw [<-e1];exact e3,e4⟩
       · rcases HO aa i with e3 | ⟨t',g',k',l',e3,e4⟩
         · exact .inr ⟨t,g,k,l,e1,by rw [e3,e2]⟩
         · rw [e2] at e3;cases e3
theorem ZO {α:Type}:∀ (l:List α) (q:Nat) (cs b:List α),q+cs.length<=l.length->fm (l++b) q cs=fm l q cs++b
 | l,0,cs,b,h=>by
   have e:∀ m:List α,fm m 0 cs=cs++m.drop cs.length:=fun m=>by cases m <;> rfl
   rw [e,e,List.drop_append_of_le_length (by simpa using h),List.append_assoc]
 | [],q+ 1,cs,b,h=>by simp at h
 | u::l,q+ 1,cs,b,h=>by
   simp only [List.cons_append,fm,ZO l q cs b (by simp at h;omega)]
theorem ZP {α:Type}:∀ (a l:List α) (q:Nat) (cs:List α),fm (a++l) (a.length+q) cs=a++fm l q cs
 | [],l,q,cs=>by simp
 | u::a,l,q,cs=>by
   have e:(u::a).length+q=(a.length+q)+ 1 :=by simp only [List.length_cons];omega
   rw [e]
   simp only [List.cons_append,fm,ZP a l q cs]
theorem asw {α:Type} {xs cs0 vs:List α} {p q:Nat} (h:(xs.drop p).take cs0.length=cs0) (aD:p+cs0.length<=xs.length) (aQ:q+vs.length<=cs0.length):xs.take p++fm cs0 q vs++xs.drop (p+cs0.length)=fm xs (p+q) vs:=by
 have ad:xs=xs.take p++(cs0++xs.drop (p+cs0.length)):=by
  have I:xs.drop p=cs0++xs.drop (p+cs0.length):=by
   rw [<-List.drop_drop]
   have:=(List.take_append_drop cs0.length (xs.drop p)).symm
   rwa [h] at this
  rw [<-I,List.take_append_drop]
 have ak:(xs.take p).length=p:=by rw [List.length_take];omega
 have e:=ZP (xs.take p) (cs0++xs.drop (p+cs0.length)) q vs
 rw [<-ad,ak,ZO _ _ _ _ aQ,<-List.append_assoc] at e
 exact e.symm
theorem WS (a5:dn E) (hm:Mem E.T W M0 X bl ρ w) {o:Oper} {t sz i t2 g k q:Nat} {l:List (E.T.El t2)} {x y:Operand} {j:Int} {d d':E.T.El t2} {u:aI E.T.El} {bl':List (aF E.T.El)} {cs:List (aI E.T.El)} {h:Value} {A:Option Addr} {c m:Nat}
 (ao:∀ w,(Go.sizeOf t).run E.P w= .ok sz w) (I:ts (cellsOf u)=true) (aa:Nat.beq (cellsOf u).length sz=true) (hi:bl[i]? =some (.r t2 g k l)) (bu:ρ[i]? =some h) (aL:idx l j=some d) (hle:q+(cellsOf u).length<=((E.T.e t2).cs d).length)
 (gn:Ko bl' i=true) (n8:lY bl (fm ((E.T.e t2).cs d) q (cellsOf u))=(bl',cs)) (gm:(E.T.e t2).gU cs=some d') (dB:h= .slice A m c) (ap:o.op= .store t x y) (ad:a.eval x= .pointer (some ⟨di A,j.toNat*(E.T.ty t2).size+q,none⟩)) (hu:au E.T (bi X bl ρ w) w ρ bl u (a.eval y)) :
 gC E o a W M0 X bl ρ w ⟨none,bl'.set i (.r t2 g (k+ 1) (l.set j.toNat d')),[i]⟩:=by
 have ss:=mM hu
 have yy:=ss.len
 obtain ⟨cN,bC,xs,e1,e2,e3⟩:=hm.ok i _ _ hi bu
 rw [dB] at e1
 simp only [Value.slice.injEq] at e1
 obtain ⟨rfl,rfl,rfl⟩:=e1
 obtain ⟨Zs,vl,Eu⟩:=jW aL
 obtain ⟨dS,rfl,sq,hc,jU⟩:=rp (by omega) (dB ▸ e2)
 obtain ⟨cs0,bk,bH⟩:=Ff (E.T.ty t2) e3 Eu
 have Yt:=a5.tb.cells (ρ:=ρ) (bl:=bl) bk
 have n9:=Yt.len
 have Is:=(E.T.ty t2).len bk
 obtain ⟨dd,t1,v1⟩:=HP hm n8 (Yt.lay ss hle)
 have gT:=a5.tb.gU _ _ _ gm _ _ _ _ _ v1
 have ob:=tw _ e3
 have hbound:j.toNat*(E.T.ty t2).size+q+(a.eval y).cells.toList.length<=xs.length:=by
  rw [ob,yy]
  exact ZZ vl (by omega)
 obtain ⟨w',bf,bh,ca⟩:=abO (E:=E) (a:=a) (v:=a.eval y) (vs:=(a.eval y).cells.toList) (by simp) ao (by rw [yy];exact aa) (EY I ss) (show 0 <l.length by omega) (dB ▸ e2) hbound ap (by simpa [di] using ad) rfl
 have cL:bl'[i]? =some (.r t2 g k l):=by
  rcases HO n8 i with e | ⟨t',g',k',l',e4,e5⟩
  · exact e.trans hi
  · unfold Ko at gn
    rw [cU,e5] at gn
    cases gn
 have az:bw (aF.r t2 g k l) h= [dS]:=by subst dB;simpa [bw] using jU _
 have aqs:=IC (B':=aF.r t2 g (k+ 1) (l.set j.toNat d')) (w':=w') (o:=o) (a:=a) dd cL bu (by rw [az];exact bh) rfl ⟨rfl,rfl,Nat.le_succ _,fun e=>absurd e (by simp [gx])⟩ bf (fun aJ=>by
  refine ⟨some ⟨dS,0,none⟩,c,fm xs (j.toNat*(E.T.ty t2).size+q) (a.eval y).cells.toList,by subst dB;simp,by subst dB;simpa using ca,?_⟩
  have ap_:dO (E.T.ty t2) (bi X (bl'.set i (aF.r t2 g (k+ 1) (l.set j.toNat d'))) ρ w') w' xs l:=mq _ (t1.trans aJ).F e3
  have m1:=(E.T.ty t2).law aJ.F gT
  have c8:=SA m1 ap_ vl
  have e:xs.take (j.toNat*(E.T.ty t2).size)++fm cs0 q (a.eval y).cells.toList++xs.drop (j.toNat*(E.T.ty t2).size+(E.T.ty t2).size)=fm xs (j.toNat*(E.T.ty t2).size+q) (a.eval y).cells.toList:=by
   have gH:=XB bH
   have hY:=asw (q:=q) (vs:=(a.eval y).cells.toList) gH (by rw [Is,ob];have:=ZZ (o:=0) (k:=(E.T.ty t2).size) (sz:=(E.T.ty t2).size) vl (by omega);omega) (by omega)
   rw [Is] at hY
   exact hY
  rw [<-e]
  exact c8)
 refine gC.first t1 (fun i' DQ B' g' E6 ah aw aQ=>?_) aqs
 simp only [List.mem_singleton] at DQ
 subst DQ
 exact ⟨_,hi,by rw [cL] at ah;cases ah;exact aQ⟩
end
end bz
namespace bz
open Go Go.RowKit av J
section
variable {E:Env} {W w w':World} {M0:List Nat} {X:Nat->Prop} {n:cI} {f:cz E.T.El} {bl:List (aF E.T.El)} {ρ:List Value} {a:Act} {cur:List (Nat × Bool)}
theorem anM (a5:dn E) (hm:Mem E.T W M0 X bl ρ w) {o:Oper} {t:Nat} {x y:Operand} {p u:aI E.T.El} {e:eg E.T.El} (h:(M_ E bl t p u).out e) (ap:o.op= .store t x y)
 (aD:au E.T (bi X bl ρ w) w ρ bl p (a.eval x)) (hu:au E.T (bi X bl ρ w) w ρ bl u (a.eval y)):gC E o a W M0 X bl ρ w e:=by
 unfold M_ at h
 split at h
 · rename_i b sz ak I
   have ao:=(EA ak).2
   split at h
   · rename_i aa
     have ss:=mM hu
     have yy:=ss.len
     split at h
     · rename_i i cQ
       split at h
       · rename_i ty cs hi
         rw [cU] at hi
         split at h
         · rename_i ah
           have h:(⟨none,bl.set i (.c ty (fm cs cQ (cellsOf u))),[i]⟩:eg E.T.El)=e:=h
           subst h
           have ah:=Nat.le_of_ble_eq_true ah
           simp only [au] at aD
           obtain ⟨g,aw,ap7⟩:=aD
           obtain ⟨g',vs,e1,e2,e3⟩:=hm.ok i _ _ hi aw
           simp only [Value.pointer.injEq,Option.some.injEq,Addr.mk.injEq,and_true] at e1
           subst e1
           have apN:=e3.len
           obtain ⟨w',bf,bh,ca⟩:=UG (tb:=ty) (cs:=vs) (v:=a.eval y) (vs:=(a.eval y).cells.toList) (by simp) ao (by rw [yy];exact aa) (EY I ss) (by rw [yy,apN];exact Nat.ble_eq_true_of_le ah) (show (a7.dQ g ty vs).ok w from e2) ap ap7 rfl
           refine IC (B':=aF.c ty (fm cs cQ (cellsOf u))) hm hi aw (by simpa [bw,bz.ah] using bh) rfl ⟨rfl,rfl,Nat.le_refl _,fun _=>rfl⟩ bf (fun aJ=>⟨g,av.lay vs cQ (a.eval y).cells.toList,rfl,ca,?_⟩)
           rw [IV]
           exact (aJ.vs e3).lay (aJ.vs ss) ah
         · exact h.elim
       · exact h.elim
     · rename_i i g k t' j d cQ
       split at h
       · rename_i t2 bB bh l hi
         rw [cU] at hi
         simp only [au] at aD
         obtain ⟨_,aL,bu,hle,ag⟩:=aD
         rw [hi] at ag
         split at h
         · rename_i aw ai
           have aw:=Nat.eq_of_beq_eq_true aw
           have ai:=Nat.eq_of_beq_eq_true ai
           subst aw;subst ai
           obtain ⟨⟨A,m,c,bk,bH,bU,fp⟩,auI,Rn⟩:=ag rfl
           obtain ⟨l',b9,cJ⟩:=Rn rfl
           split at h
           · rename_i bl' cs aCV n8 aCL DG
             simp only [p0,Option.some.injEq,Sigma.mk.injEq] at b9
             obtain ⟨fO,b9⟩:=b9
             subst fO
             have b9:=eq_of_heq b9
             subst b9
             split at h
             · rename_i d' gm gn
               have h:(⟨none,bl'.set i (.r t2 g (k+ 1) (l.set j.toNat d')),[i]⟩:eg E.T.El)=e:=h
               subst h
               exact WS a5 hm ao I aa hi bu cJ (Nat.le_of_ble_eq_true DG) gn n8 gm bk ap (by simpa [iv] using fp) hu
             · exact h.elim
           · exact h.elim
         · rename_i aw ai
           have aw:=Nat.eq_of_beq_eq_true aw
           subst aw
           obtain ⟨⟨A,m,c,bk,bH,bU,fp⟩,_⟩:=ag rfl
           obtain ⟨d1,cJ,h⟩:=h
           dsimp only at h
           split at h
           · rename_i bl' cs n8 DG
             split at h
             · rename_i d' gm gn
               have h:(⟨none,bl'.set i (.r t2 g (bh+ 1) (l.set j.toNat d')),[i]⟩:eg E.T.El)=e:=h
               subst h
               exact WS a5 hm ao I aa hi bu cJ (Nat.le_of_ble_eq_true DG) gn n8 gm bk ap (by simpa [iv] using fp) hu
             · exact h.elim
           · exact h.elim
         · exact h.elim
       · exact h.elim
     · rename_i i g cQ
       split at h
       · rename_i t2 s2 bB cs hi
         rw [cU] at hi
         split at h
         · rename_i ah
           simp only [Bool.and_eq_true] at ah
           have h:(⟨none,bl.set i (.k t2 s2 bB (fm cs cQ (cellsOf u))),[i]⟩:eg E.T.El)=e:=h
           subst h
           simp only [au] at aD
           obtain ⟨_,aL,bu,hle,ag⟩:=aD
           rw [hi] at ag
           have aw:=Nat.eq_of_beq_eq_true ah.1
           subst aw
           obtain ⟨A,m,c,bk,bH,bU⟩:=ag rfl
           obtain ⟨cN,eI,bC,xs,e1,e2,e3⟩:=hm.ok i _ _ hi bu
           rw [e1] at bk
           simp only [Value.slice.injEq] at bk
           obtain ⟨rfl,rfl,rfl⟩:=bk
           subst e1
           have Yr:=Nat.le_of_ble_eq_true ah.2
           have apO:=e3.len
           obtain ⟨dS,rfl,sq,hc,jU⟩:=rp bH e2
           obtain ⟨w',bf,bh,ca⟩:=abO (E:=E) (a:=a) (v:=a.eval y) (vs:=(a.eval y).cells.toList) (by simp) ao (by rw [yy];exact aa) (EY I ss) bH e2 (by rw [yy,apO];exact Yr) ap (by simpa [di] using bU) rfl
           have az:bw (aF.k t2 s2 g cs) (.slice (some ⟨dS,0,none⟩) eI bC)= [dS]:=by simpa [bw] using jU _
           exact IC (B':=aF.k t2 s2 g (fm cs cQ (cellsOf u))) hm hi bu (by rw [az];exact bh) rfl ⟨rfl,rfl,Nat.le_refl _,fun _=>rfl⟩ bf (fun aJ=>⟨_,_,_,_,rfl,ca,(aJ.vs e3).lay (aJ.vs ss) Yr⟩)
         · exact h.elim
       · exact h.elim
     · exact h.elim
   · exact h.elim
 · exact h.elim
theorem WX {F:Nat->Prop} {bP vt:Nat} {K:iL (E.T.El bP)} {k:E.T.El bP} {v:E.T.El vt} {u:Value} (hu:x3 E.T F w vt v u):∀ {es:List MapEntry} {d:List (E.T.El bP × E.T.El vt)} {p:Nat},jx E.T F w K es d->ja K d k=some p->jx E.T F w K (es.modify p fun e=>{ e with key:=K.enc k,val:=u }) (q5 K d k v)
 | [],[],_,_,aD=>by simp [ja,nd] at aD
 | [],_::_,_,h,_=>h.elim
 | _::_,[],_,h,_=>h.elim
 | e::es,q::d,p,h,aD=>by
   obtain ⟨I,aa,aq⟩:=h
   by_cases aQ:q.1 =k
   · simp only [ja,nd,if_pos aQ,Option.some.injEq] at aD
     subst aD
     simp only [q5,hA,if_pos aQ,List.modify_zero_cons]
     exact ⟨rfl,hu,aq⟩
   · simp only [ja,nd,if_neg aQ,Option.map_eq_some_iff] at aD
     obtain ⟨rh,u',rfl⟩:=aD
     simp only [q5,hA,if_neg aQ,List.modify_succ_cons]
     exact ⟨I,aa,WX hu aq u'⟩
theorem WW {F:Nat->Prop} {bP vt:Nat} {K:iL (E.T.El bP)} {k:E.T.El bP} {v:E.T.El vt} {u:Value} {c:Nat} (hu:x3 E.T F w vt v u):∀ {es:List MapEntry} {d:List (E.T.El bP × E.T.El vt)},jx E.T F w K es d->ja K d k=none->jx E.T F w K (es++[{ key:=K.enc k,val:=u,born:=c }]) (q5 K d k v)
 | [],[],_,_=>⟨rfl,hu,trivial⟩
 | [],_::_,h,_=>h.elim
 | _::_,[],h,_=>h.elim
 | e::es,q::d,h,aD=>by
   obtain ⟨I,aa,aq⟩:=h
   by_cases aQ:q.1 =k
   · simp [ja,nd,if_pos aQ] at aD
   · simp only [ja,nd,if_neg aQ,Option.map_eq_none_iff] at aD
     simp only [q5,hA,if_neg aQ,List.cons_append]
     exact ⟨I,aa,WW hu aq aD⟩
theorem WV {F:Nat->Prop} {bP vt:Nat} {K:iL (E.T.El bP)} {k:E.T.El bP}:∀ {es:List MapEntry} {d:List (E.T.El bP × E.T.El vt)} {p:Nat},jx E.T F w K es d->ja K d k=some p-> ∃ e,es[p]? =some e/\e.key=K.enc k
 | [],[],_,_,aD=>by simp [ja,nd] at aD
 | [],_::_,_,h,_=>h.elim
 | _::_,[],_,h,_=>h.elim
 | e::es,q::d,p,h,aD=>by
   obtain ⟨I,aa,aq⟩:=h
   by_cases aQ:q.1 =k
   · simp only [ja,nd,if_pos aQ,Option.some.injEq] at aD
     subst aD
     exact ⟨e,rfl,by rw [I,aQ]⟩
   · simp only [ja,nd,if_neg aQ,Option.map_eq_some_iff] at aD
     obtain ⟨rh,u',rfl⟩:=aD
     simpa using WV aq u'
def HC (E:Env) (bl:List (aF E.T.El)) (t:Nat) (u k v:aI E.T.El):D (eg E.T.El):=match u,mapOf E.P t with
 | .m i,some (Ev,_)=>match nth bl i with
   | some (.m bP vt d)=>match (E.T.e bP).key with
     | some K=>match lY bl (cellsOf v) with
       | (bl',cs)=>match Hl (E.P.underlying Ev) K.desc,(E.T.e bP).gU (cellsOf k),(E.T.e vt).gU cs,(match jX k with | true=>(E.T.e bP).agg | false=>!(E.T.e bP).agg) && (match jX v with | true=>(E.T.e vt).agg | false=>!(E.T.e vt).agg) with
         | true,some key,some val,true=>.ok ⟨none,bl'.set i (.m bP vt (q5 K d key val)),[i]⟩
         | _,_,_,_=>.no
     | none=>.no
   | _=>.no
 | _,_=>.no
theorem Xx (a5:dn E) (hm:Mem E.T W M0 X bl ρ w) {o:Oper} {t:Nat} {x y z:Operand} {u k v:aI E.T.El} {e:eg E.T.El} (h:(HC E bl t u k v).out e) (ap:o.op= .mapUpdate t x y z\/o.op= .insert t x y z)
 (ad:au E.T (bi X bl ρ w) w ρ bl u (a.eval x)) (hy:au E.T (bi X bl ρ w) w ρ bl k (a.eval y)) (aj:au E.T (bi X bl ρ w) w ρ bl v (a.eval z)):gC E o a W M0 X bl ρ w e:=by
 unfold HC at h
 split at h
 · rename_i i Ev aC9 apR
   split at h
   · rename_i bP vt d hi
     rw [cU] at hi
     split at h
     · rename_i K cP
       split at h
       rename_i bl' cs n8
       split at h
       · rename_i key val aL Pb qU sm
         have h:(⟨none,bl'.set i (.m bP vt (q5 K d key val)),[i]⟩:eg E.T.El)=e:=h
         subst h
         simp only [Bool.and_eq_true] at sm
         simp only [au] at ad
         obtain ⟨r,ay,jn⟩:=ad
         have DY:a.eval y=K.enc key:=by
          have e1:=a5.tb.gU _ _ _ Pb _ _ _ _ _ (mM hy)
          exact (Ma hy sm.1).trans (a5.tb.key _ _ cP _ _ _ _ e1)
         obtain ⟨dd,t1,v1⟩:=HP hm n8 (mM aj)
         have gT:=a5.tb.gU _ _ _ qU _ _ _ _ _ v1
         have cL:bl'[i]? =some (.m bP vt d):=by
          rcases HO n8 i with e | ⟨t',g',k',l',e4,e5⟩
          · exact e.trans hi
          · rw [hi] at e4;cases e4
         have Y9:x3 E.T (bi X bl' ρ w) w vt val (a.eval z):=⟨_,gT,Ma aj sm.2⟩
         obtain ⟨h3,e1,akM,Dw,es,clock,bk,bH,bU,fp⟩:=dd.ok i _ _ cL ay
         simp only [Value.map.injEq,Option.some.injEq] at e1
         subst e1
         rw [cP] at Dw
         cases Dw
         have hu:=Qu apR
         have sB:=Wb aL
         have bs:r <w.heap.size:=(Array.getElem?_eq_some_iff.1 bk).1
         have jD:∀ cQ:Obj,bp [r] w { w with heap:=w.heap.setIfInBounds r cQ }:=fun cQ=>⟨rfl,rfl,rfl,by simp,fun q _ aA=>by
          show (w.heap.setIfInBounds r cQ)[q]? =_
          rw [Array.getElem?_setIfInBounds,if_neg (fun e=>aA (by simp [e]))]⟩
         refine gC.first t1 (fun i' DQ B' g' E6 ah aw aQ=>?_) ?_
         · simp only [List.mem_singleton] at DQ
           subst DQ
           rw [cL] at ah
           cases ah
           exact ⟨_,hi,aQ⟩
         have fin:∀ (yb:Array MapEntry) (bC:Nat),o5 E.P o a w { w with heap:=w.heap.setIfInBounds r (.map yb bC) } ->jx E.T (bi X bl' ρ w) w K yb.toList (q5 K d key val)->(yb.toList.map (·.born)).Pairwise (· < ·)->(∀ e ∈ yb.toList,e.born <bC) ->
          gC E o a W M0 X bl' ρ w ⟨none,bl'.set i (.m bP vt (q5 K d key val)),[i]⟩:=fun yb bC PI I aa aq=>by
          refine IC (B':=aF.m bP vt (q5 K d key val)) (w':={ w with heap:=w.heap.setIfInBounds r (.map yb bC) }) dd cL ay (by simpa [bw,bz.ah] using jD _) rfl ⟨rfl,rfl,Nat.le_refl _,fun _=>rfl⟩ PI (fun aJ=>⟨r,rfl,K,cP,yb,bC,by simp [bs],I.law aJ.F,aa,aq⟩)
         rcases SR (vt:=vt) key sB bH w with ⟨f1,f2,f3⟩ | ⟨p,agC,Ci,f1,f2,f3,f4⟩
         · refine fin (es.push { key:=K.enc key,val:=a.eval z,born:=clock }) (clock+ 1) ?_ ?_ ?_ ?_
           · rcases ap with ap | ap <;>
             · simp only [o5,execOp,ap,jn,DY,Instr.mapUpdate,Sem.run_bind,run_underlying hu,Result.andThen_ok,MapKept.run_getObj_map bk,@kd.check _ K.dec K.pB E.P w false Ev key sB,f3,MapKept.run_setObj_map _ bk]
               rfl
           · simpa using WW Y9 bH f2
           · simp only [Array.toList_push,List.map_append,List.map_cons,List.map_nil,List.pairwise_append]
             refine ⟨bU,by simp,fun b ah c hc=>?_⟩
             obtain ⟨e,he,rfl⟩:=List.mem_map.1 ah
             simp only [List.mem_singleton] at hc
             subst hc
             exact fp e he
           · intro e he
             simp only [Array.toList_push,List.mem_append,List.mem_singleton] at he
             rcases he with he | rfl
             · exact Nat.lt_succ_of_lt (fp e he)
             · exact Nat.lt_succ_self _
         · obtain ⟨e,he,api⟩:=WV (k:=key) bH f2
           have apf:es[p]? =some e:=by simpa using he
           have Ys:((es.modify p fun e=>{ e with key:=K.enc key,val:=a.eval z }).toList.map (·.born))=es.toList.map (·.born):=by
            rw [Array.toList_modify]
            apply List.ext_getElem?
            intro i
            simp only [List.getElem?_map,List.getElem?_modify]
            cases hi:es.toList[i]? with
            | none=>simp
            | some e'=>by_cases Ic:p=i <;> simp [Ic]
           refine fin (es.modify p fun e=>{ e with key:=K.enc key,val:=a.eval z }) clock ?_ ?_ ?_ ?_
           · have Pc:(Instr.keyThatStays e.key (K.enc key)).run E.P w= .ok (K.enc key) w:=by
              rw [api];simp only [Instr.keyThatStays,@kd.bits _ K.dec K.pB,if_true];rfl
             rcases ap with ap | ap <;>
             · simp only [o5,execOp,ap,jn,DY,Instr.mapUpdate,Sem.run_bind,run_underlying hu,Result.andThen_ok,MapKept.run_getObj_map bk,@kd.check _ K.dec K.pB E.P w false Ev key sB,f4,apf,Option.map_some,Option.getD_some,Pc,MapKept.run_setObj_map _ bk]
               rfl
           · rw [Array.toList_modify];exact WX Y9 bH f2
           · rw [Ys];exact bU
           · intro e1 apg
             have:e1.born ∈ es.toList.map (·.born):=by rw [<-Ys];exact List.mem_map.2 ⟨e1,apg,rfl⟩
             obtain ⟨e2,aph,heq⟩:=List.mem_map.1 this
             rw [<-heq];exact fp e2 aph
       · exact h.elim
     · exact h.elim
   · exact h.elim
 · exact h.elim
end
end bz
namespace bz
open Go Go.RowKit av J
section
variable {P:Program} {w w':World}
def Ar (w:World) (sz m:Nat) (A:Option Addr) (news:List Value):Prop:=(m= 0 /\news= [])\/ ∃ ea,A=some ea/\news.length=m*sz/\(∀ j u,news[j]? =some u->w.cell? (ea.add j)=some u)/\ ∀ u ∈ news,u.oneCell'=true
theorem axh {t ty e:TypeId} {i:TypeInfo} (aJ:P.underlying t=some (.slice e)) (hi:P.info? e=some i) (A cZ:Option Addr) (n c c2:Nat) (hle:n<=c):(Builtin.append_ #[t,t] ty #[.slice A n c,.slice cZ 0 c2]).run P w= .ok (.slice A n c) w:=by
 cases A <;> cases cZ <;> simp [Builtin.append_,run_underlying aJ,Go.sizeOf,typeInfo,hi,Builtin.lenOf,Builtin.firstCells,hle,storeCells,loadCells,loadCellsFrom]
theorem rowIs.short {t sz n c k:Nat} {A:Option Addr} {xs:List Value} (e:rowIs w t sz (.slice A n c) n xs) (ai:k<=n):rowIs w t sz (.slice A k c) k (xs.take (k*sz)):=by
 have ak:=e.len
 have Pc:k*sz<=n*sz:=Nat.mul_le_mul_right sz ai
 rcases e with e | ⟨rfl,rfl,cN,e⟩
 · rcases e.2 with ⟨I,aN⟩ | ⟨g,cap,cur,I,aa,aq,a',c8,gH,hY⟩
   · simp only [Value.slice.injEq] at I
     obtain ⟨rfl,rfl,rfl⟩:=I
     have:k= 0 :=by omega
     subst this
     exact .inl ⟨by simp,.inl ⟨rfl,rfl⟩⟩
   · simp only [Value.slice.injEq] at I
     obtain ⟨rfl,_,rfl⟩:=I
     refine .inl ⟨by rw [List.length_take];omega,.inr ⟨g,c,cur,rfl,aa,aq,by omega,c8,gH,?_⟩⟩
     rw [<-hY,List.take_take,Nat.min_eq_left Pc]
 · have:k= 0 :=by omega
   subst this
   simp only [Value.slice.injEq] at e
   obtain ⟨rfl,_,rfl⟩:=e
   exact .inr ⟨rfl,by simp,A,rfl⟩
theorem Vn {t ty e:TypeId} {i:TypeInfo} {z:Value} {bytes sz:Nat} (aJ:P.underlying t=some (.slice e)) (hi:P.info? e=some i) (aj:i.zero=some z) (cX:i.size=sz) (l5:i.bytes=bytes) (PL:z.cells.size=sz) (gS:0 <sz)
 {A cZ:Option Addr} {n c m c2:Nat} {xs news:List Value} (ay:rowIs w e sz (.slice A n c) n xs) (ao:Ar w sz m cZ news) (A0:n+m<=maxLen) (ah:(n+m)*bytes<= 140737488355328) :
 ∃ cN bC w',(Builtin.append_ #[t,t] ty #[.slice A n c,.slice cZ m c2]).run P w= .ok (.slice cN (n+m) bC) w'/\rowIs w' e sz (.slice cN (n+m) bC) (n+m) (xs++news)/\bp (bz.ah (.slice A n c)) w w'/\ ∀ k ∈ bz.ah (.slice cN (n+m) bC),k ∈ bz.ah (.slice A n c)\/(w.heap.size<=k/\k <w'.heap.size):=by
 have qJ:=ay.cap
 rcases Nat.eq_zero_or_pos m with aN | hm
 · subst aN
   have aA:news= []:=by
    rcases ao with ⟨_,h⟩ | ⟨_,_,h,_⟩
    · exact h
    · exact List.eq_nil_of_length_eq_zero (by simpa using h)
   subst aA
   exact ⟨A,c,w,axh aJ hi A cZ n c c2 qJ.1,by simpa using ay,bp.refl _ _,fun k ai=>.inl ai⟩
 · obtain ⟨ea,rfl,ak,ij,yB⟩:∃ ea,cZ=some ea/\news.length=m*sz/\(∀ j u,news[j]? =some u->w.cell? (ea.add j)=some u)/\ ∀ u ∈ news,u.oneCell'=true:=by
    rcases ao with ⟨h,_⟩ | h
    · omega
    · exact h
   have grow:∀ {fh:Value} {w':World} {b:Nat},w'.ownsRow b e sz fh (n+m) (xs++news)-> ∃ g cap cur,fh= .slice (some ⟨g,0,none⟩) (n+m) cap/\b<=g/\w'.heap[g]? =some (.cells cur e (0,0))/\n+m<=cap:=fun {fh w' b} h=>by
    rcases h.2 with ⟨_,aN⟩ | ⟨g,cap,cur,I,aa,aq,a',_⟩
    · omega
    · exact ⟨g,cap,cur,I,aa,aq,a'⟩
   have Vs:∀ {fh:Value} {w':World} {b:Nat},w'.ownsRow b e sz fh (n+m) (xs++news)->w'.ownsRow 0 e sz fh (n+m) (xs++news):=fun {fh w' b} h=>⟨h.1,h.2.imp id fun ⟨g,cap,cur,bk,_,bU⟩=>⟨g,cap,cur,bk,Nat.zero_le _,bU⟩⟩
   rcases Nat.eq_zero_or_pos c with hc | hc
   · subst hc
     have aA:n= 0 :=by omega
     subst aA
     have ad:xs= []:=List.eq_nil_of_length_eq_zero (by rw [ay.len];simp)
     subst ad
     have qI:bz.ah (.slice A 0 0)= []:=by cases A <;> rfl
     rw [qI]
     cases A with
     | none=>
       obtain ⟨fh,w',bf,bh,ca,_,m7⟩:=run_append_own_at (P:=P) w w.heap.size t ty e i z sz bytes aJ hi aj cX l5 PL gS (.slice none 0 0) 0 [] ⟨by simp,.inl ⟨rfl,rfl⟩⟩ ea m c2 news ak ij yB A0 ah (Nat.le_refl _)
       obtain ⟨g,cap,cur,rfl,bH,bU,fp⟩:=grow (b:=w.heap.size) bh
       refine ⟨_,_,w',bf,.inl (Vs bh),bp.grown ca,fun k ai=>?_⟩
       right
       have:k=g:=by
        cases cap with
        | zero=>simp [bz.ah] at ai
        | succ q=>simpa [bz.ah] using ai
       subst this
       exact ⟨bH,(Array.getElem?_eq_some_iff.1 bU).1⟩
     | some b=>
       obtain ⟨fh,w',bf,bh,ca⟩:=run_append_arg_grows (P:=P) w t ty e i z sz bytes aJ hi aj cX l5 PL gS b 0 0 [] (by simp) (fun j u hu=>by simp at hu) ea m c2 news ak ij (by omega) A0 ah
       obtain ⟨g,cap,cur,rfl,bH,bU,fp⟩:=grow (b:=w.heap.size) bh
       refine ⟨_,_,w',bf,.inl (Vs bh),bp.grown ca,fun k ai=>?_⟩
       right
       have:k=g:=by
        cases cap with
        | zero=>simp [bz.ah] at ai
        | succ q=>simpa [bz.ah] using ai
       subst this
       exact ⟨bH,(Array.getElem?_eq_some_iff.1 bU).1⟩
   · obtain ⟨uR,rfl⟩:=qJ.2.2.2 hc
     have jV:w.ownsRow 0 e sz (.slice (some ⟨uR,0,none⟩) n c) n xs:=by
      rcases ay with h | ⟨_,_,cN,h⟩
      · exact h
      · simp only [Value.slice.injEq] at h;omega
     obtain ⟨fh,w',bf,bh,ca,_,m7⟩:=run_append_own_at (P:=P) w 0 t ty e i z sz bytes aJ hi aj cX l5 PL gS (.slice (some ⟨uR,0,none⟩) n c) n xs jV ea m c2 news ak ij yB A0 ah (Nat.zero_le _)
     obtain ⟨g,cap,cur,rfl,bH,bU,fp⟩:=grow (b:=0) bh
     have DF:bz.ah (.slice (some ⟨uR,0,none⟩) n c)= [uR]:=by
      cases c with
      | zero=>omega
      | succ c=>rfl
     rw [DF]
     refine ⟨_,_,w',bf,.inl bh,bp.grown ca,fun k ai=>?_⟩
     have:k=g:=by
      cases cap with
      | zero=>simp [bz.ah] at ai
      | succ q=>simpa [bz.ah] using ai
     subst this
     rcases m7 with e5 | e5
     · left
       simp only [Value.ownBlock,Option.some.injEq] at e5
       simp [e5]
     · right
       simp only [Value.ownBlock,Option.some.injEq] at e5
       rw [e5]
       refine ⟨Nat.le_refl _,?_⟩
       rw [<-e5]
       exact (Array.getElem?_eq_some_iff.1 bU).1
end
def qx (P:Program) (t:TypeId):Option (Nat × Nat × Nat):=match P.underlying t with
 | some (.slice e)=>match P.info? e with
   | some i=>match i.zero with
     | some z=>match Nat.beq z.cells.size i.size && Nat.blt 0 i.size && Nat.blt 0 i.bytes with
       | true=>some (e,i.size,i.bytes)
       | false=>none
     | none=>none
   | none=>none
 | _=>none
theorem uL {P:Program} {t e sz bY:Nat} (h:qx P t=some (e,sz,bY)):P.underlying t=some (.slice e)/\ ∃ i z,P.info? e=some i/\i.zero=some z/\i.size=sz/\i.bytes=bY/\z.cells.size=sz/\ 0 <sz/\ 0 <bY:=by
 unfold qx at h
 split at h
 · rename_i e' I
   split at h
   · rename_i i aa
     split at h
     · rename_i z aq
       split at h
       · rename_i a'
         simp only [Option.some.injEq,Prod.mk.injEq] at h
         obtain ⟨rfl,rfl,rfl⟩:=h
         simp only [Bool.and_eq_true] at a'
         exact ⟨I,i,z,aa,aq,rfl,rfl,Nat.eq_of_beq_eq_true a'.1.1,Nat.le_of_ble_eq_true a'.1.2,Nat.le_of_ble_eq_true a'.2⟩
       · cases h
     · cases h
   · cases h
 · cases h
def uF {El:Nat->Type} (t t':Nat) (l:List (El t)):Option (List (El t')):=match Nat.decEq t t' with
 | .isTrue h=>some (h ▸ l)
 | .isFalse _=>none
def Bk {El:Nat->Type} {t:Nat} (e:b5 El t):List (List (aI El))->Option (List (El t))
 | []=>some []
 | c::r=>match e.gU c,Bk e r with
   | some d,some ds=>some (d::ds)
   | _,_=>none
def AE {α:Type} (sz:Nat):Nat->List α->List (List α)
 | 0,_=>[]
 | n+ 1,l=>l.take sz::AE sz n (l.drop sz)
def FH (E:Env) (bl:List (aF E.T.El)) (t:Nat):aI E.T.El->Option (List (E.T.El t))
 | .s t' l=>uF t' t l
 | .q t' l=>uF t' t l
 | .p (.slice none 0 0)=>some []
 | .p (.slice (some _) 0 _)=>some []
 | .r j g=>match nth bl j with
   | some (.r t' bB _ l)=>match Nat.beq g bB with
     | true=>uF t' t l
     | false=>none
   | some (.k _ sz bB cs)=>match Nat.beq g bB && Nat.beq sz (E.T.ty t).size && Nat.blt 0 sz with
     | true=>Bk (E.T.e t) (AE sz (cs.length / sz) cs)
     | false=>none
   | _=>none
 | .v j g lo hi=>match nth bl j with
   | some (.r t' bB _ l)=>match Nat.beq g bB with
     | true=>uF t' t ((l.take hi.toNat).drop lo.toNat)
     | false=>none
   | _=>none
 | _=>none
section
variable {E:Env} {W w w':World} {M0:List Nat} {X:Nat->Prop} {n:cI} {f:cz E.T.El} {bl:List (aF E.T.El)} {ρ:List Value} {a:Act} {cur:List (Nat × Bool)}
theorem AB {El:Nat->Type} {t t':Nat} {l:List (El t)} {l':List (El t')} (h:uF t t' l=some l'):∃ e:t=t',e ▸ l=l':=by
 unfold uF at h
 split at h
 · rename_i e _
   simp only [Option.some.injEq] at h
   exact ⟨e,h⟩
 · cases h
theorem PR (a5:dn E) {F:Nat->Prop} {t sz:Nat}:∀ (n:Nat) {cs:List (aI E.T.El)} {vs:List Value} {l:List (E.T.El t)},a3 E.T F w ρ bl cs vs->vs.length=n*sz->Bk (E.T.e t) (AE sz n cs)=some l->dO (E.T.ty t) F w vs l/\l.length=n
 | 0,cs,vs,l,h,ak,hi=>by
   simp only [AE,Bk,Option.some.injEq] at hi
   subst hi
   exact ⟨List.eq_nil_of_length_eq_zero (by simpa using ak),rfl⟩
 | n+ 1,cs,vs,l,h,ak,hi=>by
   simp only [AE,Bk] at hi
   split at hi
   · rename_i d ds I aa
     simp only [Option.some.injEq] at hi
     subst hi
     have bk:=a5.tb.gU _ _ _ I _ _ _ _ _ (a3.take sz h)
     obtain ⟨bH,bU⟩:=PR a5 n (a3.drop sz h) (by rw [List.length_drop,ak,Nat.add_mul];omega) aa
     exact ⟨⟨vs.take sz,vs.drop sz,(List.take_append_drop sz vs).symm,bk,bH⟩,by simp [bU]⟩
   · cases hi
theorem acd {F:Nat->Prop} {t:Nat} {l:List (E.T.El t)} {A:Option Addr} {c:Nat} (h:(bZ (E.T.ty t)).rd F w [.slice A l.length c] l):∃ news,Ar w (E.T.ty t).size l.length A news/\dO (E.T.ty t) F w news l:=by
 obtain ⟨cN,bC,e1,e2,e3,e4,e5⟩:=h
 simp only [List.cons.injEq,Value.slice.injEq,and_true,true_and] at e1
 obtain ⟨rfl,rfl⟩:=e1
 by_cases ak:l= []
 · subst ak
   exact ⟨[],.inl ⟨rfl,rfl⟩,rfl⟩
 · obtain ⟨dH,bB,xs,fI,iP⟩:=e5 ak
   exact ⟨xs,.inr ⟨_,dH,tw _ fI,fun j u hu=>by rw [jN];exact iP j u hu,BW _ fI⟩,fI⟩
theorem SQ {t sz n c:Nat} {A:Option Addr} {xs:List Value} (h:rowIs w t sz (.slice A n c) n xs) (I:∀ u ∈ xs,u.oneCell'=true):Ar w sz n A xs:=by
 rcases Nat.eq_zero_or_pos n with aN | aN
 · subst aN
   exact .inl ⟨rfl,List.eq_nil_of_length_eq_zero (by rw [h.len];simp)⟩
 · obtain ⟨g,rfl,_,hc,_⟩:=rp aN h
   exact .inr ⟨_,rfl,h.len,fun j u hu=>by rw [jN];exact hc j u hu,I⟩
theorem acb (a5:dn E) (hm:Mem E.T W M0 X bl ρ w) {t:Nat} {y:aI E.T.El} {l:List (E.T.El t)} {v:Value} (h:FH E bl t y=some l) (ag:au E.T (bi X bl ρ w) w ρ bl y v) :
 ∃ A c news,v= .slice A l.length c/\Ar w (E.T.ty t).size l.length A news/\dO (E.T.ty t) (bi X bl ρ w) w news l:=by
 unfold FH at h
 split at h
 · obtain ⟨rfl,rfl⟩:=AB h
   simp only [au] at ag
   obtain ⟨A,c,rfl⟩:=kJ _ ag
   obtain ⟨news,I,aa⟩:=acd ag
   exact ⟨A,c,news,rfl,I,aa⟩
 · obtain ⟨rfl,rfl⟩:=AB h
   simp only [au] at ag
   obtain ⟨A,c,rfl⟩:=kJ _ ag.1
   obtain ⟨news,I,aa⟩:=acd ag.1
   exact ⟨A,c,news,rfl,I,aa⟩
 · simp only [Option.some.injEq] at h
   subst h
   simp only [au] at ag
   exact ⟨none,0,[],ag,.inl ⟨rfl,rfl⟩,rfl⟩
 · simp only [Option.some.injEq] at h
   subst h
   simp only [au] at ag
   exact ⟨_,_,[],ag,.inl ⟨rfl,rfl⟩,rfl⟩
 · rename_i j g
   split at h
   · rename_i t' bB k l' hi
     rw [cU] at hi
     split at h
     · rename_i ah
       obtain ⟨rfl,rfl⟩:=AB h
       simp only [au] at ag
       obtain ⟨_,aL,bk,bH,bU⟩:=ag
       rw [hi] at bU
       obtain ⟨A,c,xs,e1,e2,e3⟩:=hm.ok j _ _ hi bk
       rw [bU (Nat.eq_of_beq_eq_true ah),e1]
       exact ⟨A,c,xs,rfl,SQ (e1 ▸ e2) (BW _ e3),e3⟩
     · cases h
   · rename_i t' sz bB cs hi
     rw [cU] at hi
     split at h
     · rename_i ah
       simp only [Bool.and_eq_true] at ah
       simp only [au] at ag
       obtain ⟨_,aL,bk,bH,bU⟩:=ag
       rw [hi] at bU
       obtain ⟨A,m,c,xs,e1,e2,e3⟩:=hm.ok j _ _ hi bk
       have cX:=Nat.le_of_ble_eq_true ah.2
       have hlen:=e3.len
       have aa:=e2.len
       have aQ:cs.length / sz=m:=by rw [<-hlen,aa];exact Nat.mul_div_cancel _ cX
       rw [aQ] at h
       obtain ⟨b9,cJ⟩:=PR a5 m e3 aa h
       rw [bU (Nat.eq_of_beq_eq_true ah.1.1),e1,cJ]
       have:=SQ (e1 ▸ e2) (BW _ b9)
       rw [Nat.eq_of_beq_eq_true ah.1.2] at this
       exact ⟨A,c,xs,rfl,this,b9⟩
     · cases h
   · cases h
 · rename_i j g lo cL
   split at h
   · rename_i t' bB k l' hi
     rw [cU] at hi
     split at h
     · rename_i ah
       obtain ⟨rfl,rfl⟩:=AB h
       simp only [au] at ag
       obtain ⟨_,aL,bk,bH,bU⟩:=ag
       rw [hi] at bU
       obtain ⟨cN,eI,bC,B,cW,qX,l1,cj,jn,HZ,bN⟩:=bU (Nat.eq_of_beq_eq_true ah)
       obtain ⟨A,c,xs,e1,e2,e3⟩:=hm.ok j _ _ hi bk
       rw [e1] at cW e2
       simp only [Value.slice.injEq] at cW
       obtain ⟨rfl,rfl,rfl⟩:=cW
       have hlen:((l'.take cL.toNat).drop lo.toNat).length=cL.toNat - lo.toNat:=by rw [List.length_drop,List.length_take];omega
       refine ⟨B,c - lo.toNat,(xs.take (cL.toNat*(E.T.ty t').size)).drop (lo.toNat*(E.T.ty t').size),by rw [hlen];exact jn,?_,rm _ _ e3⟩
       have qM:=rm lo.toNat cL.toNat e3
       rcases Int.lt_or_le lo cL with bs | H_
       · right
         obtain ⟨dS,rfl⟩:=B1 e2 (by omega)
         obtain ⟨kq,DO,_,hc,_⟩:=rp (by omega) e2
         cases DO
         refine ⟨⟨dS,lo.toNat*(E.T.ty t').size,none⟩,by rw [bN bs];simp [jN,iv],tw _ qM,fun q u hu=>?_,BW _ qM⟩
         rw [List.getElem?_drop,List.getElem?_take] at hu
         split at hu
         · rw [jN]
           have:=hc _ u hu
           simpa using this
         · cases hu
       · left
         have:cL.toNat - lo.toNat= 0 :=by omega
         have aN:((l'.take cL.toNat).drop lo.toNat)= []:=List.eq_nil_of_length_eq_zero (by rw [hlen];exact this)
         refine ⟨by rw [aN];rfl,?_⟩
         rw [aN] at qM
         exact qM
     · cases h
   · cases h
 · cases h
end
end bz
namespace bz
open Go Go.RowKit av J
def Kr (E:Env) (bl:List (aF E.T.El)) (t:Nat):aI E.T.El->Option (Option (Nat × Nat) × List (E.T.El t))
 | .p (.slice none 0 0)=>some (none,[])
 | .q _ []=>some (none,[])
 | .r i g=>match nth bl i with
   | some (.r t' bB _ l)=>match Nat.beq g bB,uF t' t l with
     | true,some l'=>some (some (i,g),l')
     | _,_=>none
   | _=>none
 | .v i g (.ofNat 0) hi=>match nth bl i with
   | some (.r t' bB _ l)=>match Nat.beq g bB,uF t' t (l.take hi.toNat) with
     | true,some l'=>some (some (i,g),l')
     | _,_=>none
   | _=>none
 | _=>none
def wv (E:Env) (bl:List (aF E.T.El)) (e sz:Nat):aI E.T.El->Option (Option (Nat × Nat) × List (aI E.T.El))
 | .p (.slice none 0 0)=>some (none,[])
 | .q _ []=>some (none,[])
 | .r i g=>match nth bl i with
   | some (.k t' ry bB cs)=>match Nat.beq g bB && Nat.beq t' e && Nat.beq ry sz with
     | true=>some (some (i,g),cs)
     | false=>none
   | _=>none
 | _=>none
def MR (E:Env) (bl:List (aF E.T.El)) (t:Nat) (u v:aI E.T.El):D (eg E.T.El):=match qx E.P t with
 | some (e,sz,bY)=>match Nat.beq sz (E.T.ty e).size,Kr E bl e u,FH E bl e v with
   | true,some (none,_),some m=>.op (bR bY [] m) fun l=>.ok ⟨some (.r bl.length 0),bl++[.r e 0 0 l],[]⟩
   | true,some (some (i,g),b),some m=>.op (bR bY b m) fun l=>.ok ⟨some (.r i (g+ 1)),bl.set i (.r e (g+ 1) 0 l),[i]⟩
   | _,_,_=>match wv E bl e sz u,(match wv E bl e sz v with
    | some (_,m)=>match ts m with
      | true=>some m
      | false=>none
    | none=>none) with
     | some (none,_),some m=>.op (bR bY [] (List.replicate (m.length / sz) ())) fun _=>.ok ⟨some (.r bl.length 0),bl++[.k e sz 0 m],[]⟩
     | some (some (i,g),b),some m=>.op (bR bY (List.replicate (b.length / sz) ()) (List.replicate (m.length / sz) ())) fun _=>.ok ⟨some (.r i (g+ 1)),bl.set i (.k e sz (g+ 1) (b++m)),[i]⟩
     | _,_=>.no
 | none=>.no
section
variable {E:Env} {W w w':World} {M0:List Nat} {X:Nat->Prop} {n:cI} {f:cz E.T.El} {bl:List (aF E.T.El)} {ρ:List Value} {a:Act} {cur:List (Nat × Bool)}
def L3 (w:World) (bl:List (aF E.T.El)) (ρ:List Value) (e sz n:Nat) (v:Value) (xs:List Value):Option (Nat × Nat)->Prop
 | none=>∃ A,v= .slice A 0 0 /\n= 0 /\xs= []
 | some (i,g)=>∃ A c h B,v= .slice A n c/\rowIs w e sz v n xs/\bl[i]? =some B/\ρ[i]? =some h/\bw B h=bz.ah v/\mf h/\b1 (some B)=g
theorem ack (hm:Mem E.T W M0 X bl ρ w) {e:Nat} {u:aI E.T.El} {v:Value} {p:Option (Nat × Nat)} {l:List (E.T.El e)} (h:Kr E bl e u=some (p,l)) (ag:au E.T (bi X bl ρ w) w ρ bl u v) :
 ∃ xs,L3 (E:=E) w bl ρ e (E.T.ty e).size l.length v xs p/\dO (E.T.ty e) (bi X bl ρ w) w xs l:=by
 unfold Kr at h
 split at h
 · simp only [Option.some.injEq,Prod.mk.injEq] at h
   obtain ⟨rfl,rfl⟩:=h
   simp only [au] at ag
   exact ⟨[],⟨none,ag,rfl,rfl⟩,rfl⟩
 · simp only [Option.some.injEq,Prod.mk.injEq] at h
   obtain ⟨rfl,rfl⟩:=h
   simp only [au] at ag
   obtain ⟨A,dB⟩:=ag.2
   exact ⟨[],⟨A,dB,rfl,rfl⟩,rfl⟩
 · rename_i i g
   split at h
   · rename_i t' bB k l' hi
     rw [cU] at hi
     split at h
     · rename_i cj ah hc
       simp only [Option.some.injEq,Prod.mk.injEq] at h
       obtain ⟨rfl,rfl⟩:=h
       obtain ⟨rfl,rfl⟩:=AB hc
       have ah:=Nat.eq_of_beq_eq_true ah
       simp only [au] at ag
       obtain ⟨_,aL,bk,bH,bU⟩:=ag
       rw [hi] at bU
       have aQ:=bU ah
       obtain ⟨A,c,xs,e1,e2,e3⟩:=hm.ok i _ _ hi bk
       rw [aQ]
       exact ⟨xs,⟨A,c,aL,_,e1,e2,hi,bk,rfl,by rw [e1];trivial,ah.symm⟩,e3⟩
     · cases h
   · cases h
 · rename_i i g cL
   split at h
   · rename_i t' bB k l' hi
     rw [cU] at hi
     split at h
     · rename_i cj ah hc
       simp only [Option.some.injEq,Prod.mk.injEq] at h
       obtain ⟨rfl,rfl⟩:=h
       obtain ⟨rfl,rfl⟩:=AB hc
       have ah:=Nat.eq_of_beq_eq_true ah
       simp only [au] at ag
       obtain ⟨_,aL,bk,bH,bU⟩:=ag
       rw [hi] at bU
       obtain ⟨cN,eI,bC,B,cW,qX,l1,cj,jn,HZ,_⟩:=bU ah
       obtain ⟨A,c,xs,e1,e2,e3⟩:=hm.ok i _ _ hi bk
       rw [e1] at cW e2
       simp only [Value.slice.injEq] at cW
       obtain ⟨rfl,rfl,rfl⟩:=cW
       have bN:=HZ rfl
       subst bN
       have hlen:(l'.take cL.toNat).length=cL.toNat:=by rw [List.length_take];omega
       have e4:=e2.short (k:=cL.toNat) (by omega)
       have e5:v= .slice B cL.toNat c:=by rw [jn];simp
       rw [e5]
       refine ⟨xs.take (cL.toNat*(E.T.ty t').size),⟨B,c,aL,_,by rw [hlen],by rw [hlen];exact e4,hi,bk,by rw [e1];cases B <;> cases c <;> rfl,by rw [e1];trivial,ah.symm⟩,?_⟩
       have:=rm 0 cL.toNat e3
       simpa using this
     · cases h
   · cases h
 · cases h
theorem Ta (hm:Mem E.T W M0 X bl ρ w) {e sz:Nat} {u:aI E.T.El} {v:Value} {p:Option (Nat × Nat)} {cs:List (aI E.T.El)} (cX:0 <sz) (h:wv E bl e sz u=some (p,cs)) (ag:au E.T (bi X bl ρ w) w ρ bl u v) :
 ∃ xs,L3 (E:=E) w bl ρ e sz (cs.length / sz) v xs p/\a3 E.T (bi X bl ρ w) w ρ bl cs xs:=by
 unfold wv at h
 split at h
 · simp only [Option.some.injEq,Prod.mk.injEq] at h
   obtain ⟨rfl,rfl⟩:=h
   simp only [au] at ag
   exact ⟨[],⟨none,ag,by simp,rfl⟩,by simp [a3]⟩
 · simp only [Option.some.injEq,Prod.mk.injEq] at h
   obtain ⟨rfl,rfl⟩:=h
   simp only [au] at ag
   obtain ⟨A,dB⟩:=ag.2
   exact ⟨[],⟨A,dB,by simp,rfl⟩,by simp [a3]⟩
 · rename_i i g
   split at h
   · rename_i t' ry bB jz hi
     rw [cU] at hi
     split at h
     · rename_i ah
       simp only [Bool.and_eq_true] at ah
       simp only [Option.some.injEq,Prod.mk.injEq] at h
       obtain ⟨rfl,rfl⟩:=h
       have bX:=Nat.eq_of_beq_eq_true ah.1.1
       have eb:=Nat.eq_of_beq_eq_true ah.1.2
       have gk:=Nat.eq_of_beq_eq_true ah.2
       subst eb;subst gk
       simp only [au] at ag
       obtain ⟨_,aL,bk,bH,bU⟩:=ag
       rw [hi] at bU
       have aQ:=bU bX
       obtain ⟨A,m,c,xs,e1,e2,e3⟩:=hm.ok i _ _ hi bk
       have hlen:=e3.len
       have aa:=e2.len
       have sF:jz.length / ry=m:=by rw [<-hlen,aa];exact Nat.mul_div_cancel _ cX
       rw [aQ,sF]
       exact ⟨xs,⟨A,c,aL,_,e1,e2,hi,bk,rfl,by rw [e1];trivial,bX.symm⟩,e3⟩
     · cases h
   · cases h
 · cases h
theorem Vo (hm:Mem E.T W M0 X bl ρ w) {o:Oper} {t e sz bY:Nat} {x y:Operand} {p:Option (Nat × Nat)} {n m:Nat} {xs news:List Value} {cZ:Option Addr} {c2:Nat} (B':Nat->aF E.T.El) (he:qx E.P t=some (e,sz,bY)) (ap:o.op= .call { callee:=.builtin .append,args:=#[x,y],argTypes:=#[t,t] })
 (aJ:L3 (E:=E) w bl ρ e sz n (a.eval x) xs p) (hy:a.eval y= .slice cZ m c2) (ao:Ar w sz m cZ news) (ah:(n+m)*bY<= 140737488355328)
 (H':∀ g,b1 (some (B' g))=g) (H9:∀ g h,bw (B' g) h=bz.ah h)
 (bN:∀ (bl':List (aF E.T.El)) (ρ':List Value) (w':World) (g:Nat) (cN:Option Addr) (bC:Nat),To X bl bl' ρ ρ' w w'->rowIs w' e sz (.slice cN (n+m) bC) (n+m) (xs++news)->ia E.T (bi X bl' ρ' w') w' ρ' bl' (B' g) (.slice cN (n+m) bC)) :
 gC E o a W M0 X bl ρ w (match p with
  | none=>⟨some (.r bl.length 0),bl++[B' 0],[]⟩
  | some (i,g)=>⟨some (.r i (g+ 1)),bl.set i (B' (g+ 1)),[i]⟩):=by
 obtain ⟨hu,i0,z,hi,aj,I,aa,aq,a',c8⟩:=uL he
 have A0:n+m<=maxLen:=by
  have gH:=Nat.le_mul_of_pos_right (n+m) c8
  simp only [maxLen]
  omega
 have m3:∀ {A:Option Addr} {c:Nat} {fh:Value} {w':World},a.eval x= .slice A n c->(Builtin.append_ #[t,t] o.type #[.slice A n c,.slice cZ m c2]).run E.P w= .ok fh w'->bd E.P o a w fh w':=fun {A c fh w'} ad g8=>by
  simp only [bd,execOp,ap,resolve,invoke,builtin,Sem.run_bind,Sem.run_pure,Result.andThen_ok,List.map_toArray,List.map_cons,List.map_nil,ad,hy,g8]
 cases p with
 | none=>
   obtain ⟨A,ad,rfl,rfl⟩:=aJ
   obtain ⟨cN,bC,w',bf,bh,ca,c6⟩:=Vn (w:=w) (ty:=o.type) hu hi aj I aa aq a' (show rowIs w e sz (.slice A 0 0) 0 [] from .inr ⟨rfl,rfl,A,rfl⟩) ao A0 ah
   have qI:bz.ah (.slice A 0 0)= []:=by cases A <;> rfl
   rw [qI] at ca c6
   have af:∀ k ∈ bw (B' 0) (.slice cN (0 +m) bC),w.heap.size<=k/\k <w'.heap.size:=fun k ai=>by
    rw [H9] at ai
    rcases c6 k ai with e | e
    · simp at e
    · exact e
   have fX:=hm.ww (B:=B' 0) (h:=.slice cN (0 +m) bC) ca af
   refine ⟨w',ρ++[.slice cN (0 +m) bC],hm.push ca af (bN _ _ _ _ _ _ fX bh),fX,fun k ai _=>ca.block k ai (by simp),_,m3 ad bf,?_⟩
   simp only [au]
   refine ⟨trivial,.slice cN (0 +m) bC,by rw [<-hm.len];simp,Nat.zero_le _,fun _=>rfl⟩
 | some Zh=>
   obtain ⟨i,g⟩:=Zh
   obtain ⟨A,c,h,B,ad,ay,yo,jE,jU,aql,aw⟩:=aJ
   rw [ad] at ay jU
   obtain ⟨cN,bC,w',bf,bh,ca,c6⟩:=Vn (w:=w) (ty:=o.type) hu hi aj I aa aq a' ay ao A0 ah
   rw [<-jU] at ca c6
   have af:∀ k ∈ bw (B' (g+ 1)) (.slice cN (n+m) bC),k ∈ bw B h\/(w.heap.size<=k/\k <w'.heap.size):=fun k ai=>c6 k (by rw [H9] at ai;exact ai)
   have fX:=hm.Cb (B':=B' (g+ 1)) (h':=.slice cN (n+m) bC) yo jE ca af ⟨fun aA=>absurd aql aA,by rw [H',aw];omega,fun e=>by rw [H',aw] at e;omega⟩
   refine ⟨w',ρ.set i (.slice cN (n+m) bC),hm.ej yo jE ca af fX (bN _ _ _ _ _ _ fX bh),fX,fun k ai cM=>ca.block k ai (cM i (by simp) B h yo jE),_,m3 ad bf,?_⟩
   simp only [au]
   have l1:=(List.getElem?_eq_some_iff.1 yo).1
   have cj:=(List.getElem?_eq_some_iff.1 jE).1
   refine ⟨trivial,_,List.getElem?_set_self cj,?_,fun _=>rfl⟩
   rw [List.getElem?_set_self l1,H']
   exact Nat.le_refl _
theorem ans (a5:dn E) (hm:Mem E.T W M0 X bl ρ w) {o:Oper} {t:Nat} {x y:Operand} {u v:aI E.T.El} {r:eg E.T.El} (h:(MR E bl t u v).out r) (ap:o.op= .call { callee:=.builtin .append,args:=#[x,y],argTypes:=#[t,t] })
 (ad:au E.T (bi X bl ρ w) w ρ bl u (a.eval x)) (hy:au E.T (bi X bl ρ w) w ρ bl v (a.eval y)):gC E o a W M0 X bl ρ w r:=by
 unfold MR at h
 split at h
 · rename_i e sz bY he
   obtain ⟨_,_,_,_,_,_,_,_,gS,_⟩:=uL he
   have acB:∀ {p:Option (Nat × Nat)} {b m l:List (E.T.El e)},Nat.beq sz (E.T.ty e).size=true->Kr E bl e u=some (p,b)->FH E bl e v=some m->bR bY b m=some l->gC E o a W M0 X bl ρ w (match p with
    | none=>⟨some (.r bl.length 0),bl++[.r e 0 0 l],[]⟩
    | some (i,g)=>⟨some (.r i (g+ 1)),bl.set i (.r e (g+ 1) 0 l),[i]⟩):=fun {p b m l} I aa aq a'=>by
    have I:=Nat.eq_of_beq_eq_true I
    subst I
    obtain ⟨ah,rfl⟩:=G0 a'
    obtain ⟨xs,bk,bH⟩:=ack hm aa ad
    obtain ⟨cZ,c2,news,b9,cJ,hg⟩:=acb a5 hm aq hy
    have:=Vo (B':=fun g=>aF.r e g 0 (b++m)) hm he ap bk b9 cJ ah (fun _=>rfl) (fun _ _=>rfl) (fun bl' ρ' w' g cN bC fX ay=>⟨cN,bC,xs++news,by rw [List.length_append],by rw [List.length_append];exact ay,Fc _ (mq _ fX.F hg) (mq _ fX.F bH)⟩)
    cases p <;> exact this
   have VU:∀ {p q:Option (Nat × Nat)} {b m:List (aI E.T.El)} {l:List Unit},wv E bl e sz u=some (p,b)->wv E bl e sz v=some (q,m)->ts m=true->bR bY (List.replicate (b.length / sz) ()) (List.replicate (m.length / sz) ())=some l->gC E o a W M0 X bl ρ w (match p with
    | none=>⟨some (.r bl.length 0),bl++[.k e sz 0 (b++m)],[]⟩
    | some (i,g)=>⟨some (.r i (g+ 1)),bl.set i (.k e sz (g+ 1) (b++m)),[i]⟩):=fun {p q b m l} I aa Pp aq=>by
    obtain ⟨ah,_⟩:=G0 aq
    simp only [List.length_replicate] at ah
    obtain ⟨xs,bk,bH⟩:=Ta hm gS I ad
    obtain ⟨ys,b9,cJ⟩:=Ta hm gS aa hy
    have Pv:∃ cZ c2,a.eval y= .slice cZ (m.length / sz) c2/\Ar w sz (m.length / sz) cZ ys:=by
     cases q with
     | none=>
       obtain ⟨A,e1,e2,rfl⟩:=b9
       rw [e2]
       exact ⟨A,0,e1,.inl ⟨rfl,rfl⟩⟩
     | some Zh=>
       obtain ⟨A,c,h,B,e1,e2,_⟩:=b9
       rw [e1] at e2
       exact ⟨A,c,e1,SQ e2 (fun u hu=>List.all_eq_true.1 (EY Pp cJ) u hu)⟩
    obtain ⟨cZ,c2,s1,s2⟩:=Pv
    have:=Vo (B':=fun g=>aF.k e sz g (b++m)) hm he ap bk s1 s2 ah (fun _=>rfl) (fun _ _=>rfl) (fun bl' ρ' w' g cN bC fX ay=>⟨cN,_,bC,xs++ys,rfl,ay,a3.bR (fX.vs bH) (fX.vs cJ)⟩)
    cases p <;> exact this
   split at h
   · rename_i b m I aa aq
     obtain ⟨l,a',c8⟩:=h
     have c8:(⟨some (.r bl.length 0),bl++[.r e 0 0 l],[]⟩:eg E.T.El)=r:=c8
     subst c8
     have qI:b= []:=by
      obtain ⟨xs,⟨A,_,e2,_⟩,_⟩:=ack hm aa ad
      exact List.eq_nil_of_length_eq_zero e2
     subst qI
     exact acB (p:=none) I aa aq a'
   · rename_i i g b m I aa aq
     obtain ⟨l,a',c8⟩:=h
     have c8:(⟨some (.r i (g+ 1)),bl.set i (.r e (g+ 1) 0 l),[i]⟩:eg E.T.El)=r:=c8
     subst c8
     exact acB I aa aq a'
   · have aca:∀ {m:List (aI E.T.El)},(match wv E bl e sz v with
      | some (_,m)=>match ts m with
        | true=>some m
        | false=>none
      | none=>none)=some m-> ∃ q,wv E bl e sz v=some (q,m)/\ts m=true:=fun {m} h=>by
      split at h
      · rename_i q eI aQ
        split at h
        · rename_i iU
          simp only [Option.some.injEq] at h
          subst h
          exact ⟨q,aQ,iU⟩
        · cases h
      · cases h
     split at h
     · rename_i b m I aa
       obtain ⟨q,aa,aq⟩:=aca aa
       obtain ⟨l,a',c8⟩:=h
       have c8:(⟨some (.r bl.length 0),bl++[.k e sz 0 m],[]⟩:eg E.T.El)=r:=c8
       subst c8
       have qI:b= []:=by
        obtain ⟨xs,⟨A,_,e2,e3⟩,e4⟩:=Ta hm gS I ad
        subst e3
        exact List.eq_nil_of_length_eq_zero e4.len.symm
       subst qI
       exact VU (p:=none) (b:=[]) I aa aq (by simpa using a')
     · rename_i i g b m I aa
       obtain ⟨q,aa,aq⟩:=aca aa
       obtain ⟨l,a',c8⟩:=h
       have c8:(⟨some (.r i (g+ 1)),bl.set i (.k e sz (g+ 1) (b++m)),[i]⟩:eg E.T.El)=r:=c8
       subst c8
       exact VU I aa aq a'
     · exact h.elim
 · exact h.elim
end
end bz
namespace bz
open Go Go.RowKit av J
def j' {α:Type} (z:List α):Nat->List α
 | 0 =>[]
 | n+ 1 =>z++j' z n
theorem LM {α:Type} (z:List α):∀ n,(j' z n).length=n*z.length
 | 0 =>by simp [j']
 | n+ 1 =>by simp only [j',List.length_append,LM z n,Nat.add_mul];omega
theorem ag0 {α:Type} {z:List α}:∀ {n i:Nat},i <n*z.length->(j' z n)[i]? =z[i % z.length]?
 | 0,i,h=>by simp at h
 | n+ 1,i,h=>by
   simp only [j']
   rcases Nat.lt_or_ge i z.length with c | c
   · rw [List.getElem?_append_left c,Nat.mod_eq_of_lt c]
   · rw [List.getElem?_append_right c,ag0 (by rw [Nat.add_mul] at h;omega),Nat.mod_eq_sub_mod c]
theorem agZ (w_:Array Value) (n:Nat) (h:0 <w_.size):((Array.range (n*w_.size)).map (w_[· % w_.size]!))=⟨j' w_.toList n⟩:=by
 rw [<-Array.toList_inj]
 apply List.ext_getElem?
 intro i
 rcases Nat.lt_or_ge i (n*w_.size) with c | c
 · simp only
   rw [ag0 (by simpa using c)]
   have hm:i % w_.size <w_.size:=Nat.mod_lt _ h
   simp [c,hm]
 · rw [List.getElem?_eq_none (by simpa using c),List.getElem?_eq_none (by rw [LM];simpa using c)]
theorem ag1 {El:Nat->Type} (z:List Value):∀ n,(j' z n).map (aI.p (El:=El))=j' (z.map .p) n
 | 0 =>rfl
 | n+ 1 =>by simp [j',ag1 z n]
def Xv (E:Env) (bl:List (aF E.T.El)) (t n:Nat) (ps:List (Nat × aI E.T.El)):Option (eg E.T.El):=match qx E.P t,n,ps with
 | some (e,sz,_),0,[]=>match Nat.beq sz (E.T.ty e).size with
   | true=>some ⟨some (.r bl.length 0),bl++[.r e 0 0 []],[]⟩
   | false=>some ⟨some (.r bl.length 0),bl++[.k e sz 0 []],[]⟩
 | _,_,_=>none
def M2 (E:Env) (bl:List (aF E.T.El)) (t n:Nat) (ps:List (Nat × aI E.T.El)):D (eg E.T.El):=match qx E.P t with
 | some (e,sz,_)=>match z4 E.P e,Nat.ble n 100000 && Nat.blt 0 n && Nat.ble (n*sz) 16777216 with
   | some z,true=>match sh (fun i=>some (i*sz,sz)) (j' (z.map .p) n) ps with
     | some cs=>match lY bl cs with
       | (bl',jz)=>match Nat.beq sz (E.T.ty e).size,Bk (E.T.e e) (AE sz n jz) with
         | true,some l=>.ok ⟨some (.r bl'.length 0),bl'++[.r e 0 0 l],[]⟩
         | _,_=>.ok ⟨some (.r bl.length 0),bl++[.k e sz 0 cs],[]⟩
     | none=>.no
   | _,_=>.no
 | none=>.no
def M1 (E:Env) (bl:List (aF E.T.El)) (t n:Nat) (ps:List (Nat × aI E.T.El)):D (eg E.T.El):=match Xv E bl t n ps with
 | some r=>.ok r
 | none=>M2 E bl t n ps
def SU:Operand->Operand->Bool
 | .tmp a,.tmp b=>Nat.beq a b
 | .const (.int .i64 m),.const (.int .i64 n)=>decide (m=n)
 | _,_=>false
theorem axs {a:Act} {x y:Operand} (h:SU x y=true):a.eval x=a.eval y:=by
 unfold SU at h
 split at h
 · rw [Nat.eq_of_beq_eq_true h]
 · rw [of_decide_eq_true h]
 · cases h
def M6 (E:Env) (bl:List (aF E.T.El)) (t:Nat) (x y:Operand) (u:aI E.T.El):D (eg E.T.El):=match qx E.P t,u with
 | some (e,sz,bY),.p (.int .i64 k)=>match Nat.beq sz (E.T.ty e).size,tO E e e,SU x y with
   | true,some hR,true=>.op (zb hR bY k) fun l=>.ok ⟨some (.r bl.length 0),bl++[.r e 0 0 l],[]⟩
   | _,_,_=>.no
 | _,_=>.no
section
variable {E:Env} {W w w':World} {M0:List Nat} {X:Nat->Prop} {n:cI} {f:cz E.T.El} {bl:List (aF E.T.El)} {ρ:List Value} {a:Act} {cur:List (Nat × Bool)}
theorem EQ (hm:Mem E.T W M0 X bl ρ w) {o:Oper} {e sz n:Nat} {vs:List Value} {B:aF E.T.El} (H':b1 (some B)= 0) (H9:∀ h,bw B h=bz.ah h) (ak:vs.length=n*sz) (aA:n<=maxLen)
 (bN:∀ (bl':List (aF E.T.El)) (ρ':List Value) (w':World),To X bl bl' ρ ρ' w w'->rowIs w' e sz (.slice (some ⟨w.heap.size,0,none⟩) n n) n vs->ia E.T (bi X bl' ρ' w') w' ρ' bl' B (.slice (some ⟨w.heap.size,0,none⟩) n n))
 (hy:bd E.P o a w (.slice (some ⟨w.heap.size,0,none⟩) n n) (w.alloc (.cells ⟨vs⟩ e))):gC E o a W M0 X bl ρ w ⟨some (.r bl.length 0),bl++[B],[]⟩:=by
 have ag:bp [] w (w.alloc (.cells ⟨vs⟩ e)):=bp.alloc _ _ _
 have ay:rowIs (w.alloc (.cells ⟨vs⟩ e)) e sz (.slice (some ⟨w.heap.size,0,none⟩) n n) n vs:=
  .inl ⟨ak,.inr ⟨w.heap.size,n,⟨vs⟩,rfl,Nat.zero_le _,heap_alloc_new w _,Nat.le_refl _,aA,by simpa using ak,by rw [<-ak,List.take_length]⟩⟩
 have af:∀ k ∈ bw B (.slice (some ⟨w.heap.size,0,none⟩) n n),w.heap.size<=k/\k <(w.alloc (.cells ⟨vs⟩ e)).heap.size:=fun k ai=>by
  rw [H9] at ai
  have:k=w.heap.size:=by
   cases n with
   | zero=>simp [bz.ah] at ai
   | succ q=>simpa [bz.ah] using ai
  subst this
  simp
 have aJ:=hm.ww (B:=B) (h:=.slice (some ⟨w.heap.size,0,none⟩) n n) ag af
 refine ⟨_,ρ++[.slice (some ⟨w.heap.size,0,none⟩) n n],hm.push ag af (bN _ _ _ aJ ay),aJ,fun k ai _=>ag.block k ai (by simp),_,hy,?_⟩
 simp only [au]
 exact ⟨trivial,.slice (some ⟨w.heap.size,0,none⟩) n n,by rw [<-hm.len];simp,Nat.zero_le _,fun _=>rfl⟩
theorem anC (a5:dn E) (hm:Mem E.T W M0 X bl ρ w) {o:Oper} {t n:Nat} {xs:List (Nat × Operand)} {ps:List (Nat × aI E.T.El)} {r:eg E.T.El} (h:(M2 E bl t n ps).out r) (ap:o.op= .buildSlice t n xs.toArray)
 (aD:o2 E.T (bi X bl ρ w) w ρ bl ps (xs.map fun p=>(p.1,a.eval p.2))):gC E o a W M0 X bl ρ w r:=by
 unfold M2 at h
 split at h
 · rename_i e sz bY he
   obtain ⟨hu,i0,eB,hi,ma,I,aa,aq,gS,c8⟩:=uL he
   split at h
   · rename_i z aj ah
     simp only [Bool.and_eq_true] at ah
     have DF:=Nat.le_of_ble_eq_true ah.1.1
     have A2:=Nat.le_of_ble_eq_true ah.1.2
     have Yq:=Nat.le_of_ble_eq_true ah.2
     obtain ⟨UM,Em,jG⟩:=Gu aj
     have En:UM=eB:=by
      have e1:=Em w
      simp only [zeroValue,typeInfo,Sem.run_bind] at e1
      simp [go_sem,hi,ma] at e1
      exact e1.symm
     subst En
     have aqL:z.length=sz:=by rw [<-aq,jG];simp
     split at h
     · rename_i cs af
       obtain ⟨os,f1,f2⟩:=Ng (pZ (j' z n)) aD (by rw [ag1];exact af)
       have Io:os.length=n*sz:=by
        have e1:=f2.len
        have key:∀ {ps:List (Nat × aI E.T.El)} {c d:List (aI E.T.El)},sh (fun i=>some (i*sz,sz)) c ps=some d->d.length=c.length:=by
         intro ps
         induction ps with
         | nil=>intro c d bu;simp only [sh,Option.some.injEq] at bu;rw [bu]
         | cons p r ba=>
           intro c d bu
           obtain ⟨i,y⟩:=p
           simp only [sh] at bu
           split at bu
           · rename_i yn
             simp only [Bool.and_eq_true] at yn
             rw [ba bu,Qj (Nat.le_of_ble_eq_true yn.2)]
           · cases bu
        rw [e1,key af,LM,List.length_map,aqL]
       have YX:=agZ UM.cells n (by rw [aq];exact gS)
       rw [aq,jG] at YX
       have m3:bd E.P o a w (.slice (some ⟨w.heap.size,0,none⟩) n n) (w.alloc (.cells ⟨os⟩ e)):=by
        have bk: ¬ (n*sz > 2 ^ 24):=by omega
        have bH:n*sz≠ 0 :=by
         intro bu
         rcases Nat.mul_eq_zero.1 bu with q | q <;> omega
        simp only [bd,execOp,ap,Instr.buildSlice,Sem.run_bind,Sem.run_pure,run_sizeOf hi,I,Em,Result.andThen_ok,run_underlying hu,List.map_toArray,if_neg bk,if_neg bH]
        have Y5:UM.cells.size=sz:=aq
        rw [jG] at Y5
        simp only [jG]
        rw [Y5,YX,f1]
        rfl
       have D4:n<=maxLen:=by simp only [maxLen];omega
       split at h
       rename_i bl' jz n8
       obtain ⟨dd,t1,v1⟩:=HP hm n8 f2
       split at h
       · rename_i l aQ ak
         have h:(⟨some (.r bl'.length 0),bl'++[.r e 0 0 l],[]⟩:eg E.T.El)=r:=h
         subst h
         have aQ:=Nat.eq_of_beq_eq_true aQ
         obtain ⟨b9,cJ⟩:=PR a5 n v1 Io ak
         refine gC.first t1 (fun i hi=>by simp at hi) (EQ (e:=e) (sz:=sz) (n:=n) (vs:=os) dd rfl (fun _=>rfl) Io D4 (fun uB ka ek fX ay=>?_) m3)
         subst aQ
         exact ⟨_,_,os,by rw [cJ],by rw [cJ];exact ay,mq _ fX.F b9⟩
       · have h:(⟨some (.r bl.length 0),bl++[.k e sz 0 cs],[]⟩:eg E.T.El)=r:=h
         subst h
         exact EQ (e:=e) (sz:=sz) (n:=n) (vs:=os) hm rfl (fun _=>rfl) Io D4 (fun uB ka ek fX ay=>⟨_,_,_,os,rfl,ay,fX.vs f2⟩) m3
     · exact h.elim
   · exact h.elim
 · exact h.elim
theorem anD (a5:dn E) (hm:Mem E.T W M0 X bl ρ w) {o:Oper} {t n:Nat} {xs:List (Nat × Operand)} {ps:List (Nat × aI E.T.El)} {r:eg E.T.El} (h:(M1 E bl t n ps).out r) (ap:o.op= .buildSlice t n xs.toArray)
 (aD:o2 E.T (bi X bl ρ w) w ρ bl ps (xs.map fun p=>(p.1,a.eval p.2))):gC E o a W M0 X bl ρ w r:=by
 unfold M1 at h
 split at h
 · rename_i h3 aN
   have h:h3=r:=h
   subst h
   unfold Xv at aN
   split at aN
   · rename_i e sz bY he
     obtain ⟨hu,i0,eB,hi,ma,I,aa,aq,gS,c8⟩:=uL he
     have ad:xs= []:=by
      cases xs with
      | nil=>rfl
      | cons p q=>simp [o2] at aD
     subst ad
     have hy:bd E.P o a w _ _:=aBE (sz:=i0.size) hu (fun w=>run_sizeOf hi w) ap
     split at aN
     · rename_i ah
       simp only [Option.some.injEq] at aN
       subst aN
       exact EQ (e:=e) (sz:=sz) (n:=0) (vs:=[]) hm rfl (fun _=>rfl) (by simp) (Nat.zero_le _) (fun uB ka ek fX ay=>⟨_,_,[],rfl,by rw [<-Nat.eq_of_beq_eq_true ah];exact ay,rfl⟩) hy
     · simp only [Option.some.injEq] at aN
       subst aN
       exact EQ (e:=e) (sz:=sz) (n:=0) (vs:=[]) hm rfl (fun _=>rfl) (by simp) (Nat.zero_le _) (fun uB ka ek fX ay=>⟨_,_,_,[],rfl,ay,rfl⟩) hy
   · cases aN
 · exact anC a5 hm h ap aD
theorem abC {α:Type} {T:db α} {F:Nat->Prop} {w:World} {z:List Value} {hR:α} (h:T.rd F w z hR):∀ n,dO T F w (j' z n) (List.replicate n hR)
 | 0 =>rfl
 | n+ 1 =>⟨z,j' z n,rfl,h,abC h n⟩
theorem anI (a5:dn E) (hm:Mem E.T W M0 X bl ρ w) {o:Oper} {t:Nat} {x y:Operand} {u:aI E.T.El} {r:eg E.T.El} (h:(M6 E bl t x y u).out r) (ap:o.op= .makeSlice t x y) (ad:au E.T (bi X bl ρ w) w ρ bl u (a.eval x)):gC E o a W M0 X bl ρ w r:=by
 unfold M6 at h
 split at h
 · rename_i e sz bY k he
   obtain ⟨hu,i0,eB,hi,ma,I,aa,aq,gS,c8⟩:=uL he
   split at h
   · rename_i hR aQ aj ao
     obtain ⟨l,gH,hY⟩:=h
     have hY:(⟨some (.r bl.length 0),bl++[.r e 0 0 l],[]⟩:eg E.T.El)=r:=hY
     subst hY
     have aQ:=Nat.eq_of_beq_eq_true aQ
     obtain ⟨hK,bf,rfl⟩:=as1 gH
     obtain ⟨m,rfl⟩:=Int.eq_ofNat_of_zero_le hK
     simp only [Int.toNat_natCast] at *
     have hle:m<=bY*m:=Nat.le_mul_of_pos_left m c8
     have D4:m<=maxLen:=by simp only [maxLen];omega
     simp only [au] at ad
     have hy:a.eval y= .int .i64 (m:Int):=by rw [<-axs ao,ad]
     have gT:(E.T.ty e).rd (bi X bl ρ w) w eB.cells.toList hR:=by
      unfold tO at aj
      split at aj
      · rename_i Gv jG
        split at aj
        · have e1:Gv=eB:=by
           simp only [CE,hi] at jG
           rw [ma] at jG
           exact (Option.some.inj jG).symm
          subst e1
          exact a5.tb.gU _ _ _ aj _ _ ρ bl _ (pZ _)
        · cases aj
      · cases aj
     have yn:(i0.bytes:Int)*(m:Int)<= 281474976710656 :=by
      rw [aa]
      have mR:((bY*m:Nat):Int)<= 281474976710656 :=by omega
      rwa [Int.natCast_mul] at mR
     have g8:=run_make (P:=E.P) w t e i0 eB hu hi ma .i64 .i64 (m:Int) (m:Int) (by omega) (Int.le_refl _) yn (by simp only [maxLen] at D4;omega)
     simp only [Int.toNat_natCast] at g8
     have ao5:madeCells eB.cells (m*sz)=⟨j' eB.cells.toList m⟩:=by
      have:=agZ eB.cells m (by rw [aq];exact gS)
      rw [aq] at this
      simp only [madeCells,aq]
      exact this
     rw [I,ao5] at g8
     have m3:bd E.P o a w (.slice (some ⟨w.heap.size,0,none⟩) m m) (w.alloc (.cells ⟨j' eB.cells.toList m⟩ e)):=by
      simp only [bd,execOp,ap,ad,hy,Sem.run_bind,g8,Result.andThen_ok,Sem.run_pure]
     refine EQ (e:=e) (sz:=sz) (n:=m) (vs:=j' eB.cells.toList m) hm rfl (fun _=>rfl) (by rw [LM];simp [aq]) D4 (fun uB ka ek fX ay=>?_) m3
     subst aQ
     exact ⟨_,_,_,by rw [List.length_replicate],by rw [List.length_replicate];exact ay,abC ((E.T.ty e).law fX.F gT) m⟩
   · exact h.elim
 · exact h.elim
end
end bz
namespace bz
open Go Go.RowKit av J
def acC (P:Program) (t:Nat):Bool:=match P.underlying t with
 | some (.int .u8)=>true
 | _=>false
def M' (E:Env) (bl:List (aF E.T.El)) (s d:Nat) (u:aI E.T.El):D (eg E.T.El):=match E.P.underlying s,E.P.underlying d,u with
 | some .string,some (.slice e),.p (.string ⟨⟨l⟩⟩)=>match Nat.beq e E.km,acC E.P E.km with
   | true,true=>.op (bytesOf l) fun r=>.ok ⟨some (.s E.km (E.G2 r)),bl,[]⟩
   | _,_=>.no
 | _,_,_=>.no
section
variable {E:Env} {W w w':World} {M0:List Nat} {X:Nat->Prop} {bl:List (aF E.T.El)} {ρ:List Value} {a:Act}
theorem anN (a5:dn E) (hm:Mem E.T W M0 X bl ρ w) {o:Oper} {s d:Nat} {x:Operand} {u:aI E.T.El} {r:eg E.T.El} (aj:(M' E bl s d u).out r) (ap:o.op= .convert s d x) (ad:au E.T (bi X bl ρ w) w ρ bl u (a.eval x)):gC E o a W M0 X bl ρ w r:=by
 unfold M' at aj
 split at aj
 · rename_i e l aJ sG
   split at aj
   · rename_i ah hu
     have ah:=Nat.eq_of_beq_eq_true ah
     subst ah
     have he:E.P.underlying E.km=some (.int .u8):=by
      unfold acC at hu
      split at hu
      · assumption
      · cases hu
     obtain ⟨q,I,aa⟩:=aj
     have aa:(⟨some (.s E.km (E.G2 q)),bl,[]⟩:eg E.T.El)=r:=aa
     subst aa
     simp only [au] at ad
     unfold bytesOf at I
     split at I
     · rename_i hle
       simp only [Option.some.injEq] at I
       subst I
       have g8:=run_bytes_of_string (P:=E.P) w s d E.km ⟨⟨l⟩⟩ aJ sG he
       have cX:(⟨⟨l⟩⟩:ByteArray).size=l.length:=rfl
       have hc:=grownCap_ge w l.length 0 E.km
       have qL:=grownCap_le_maxLen w l.length 0 E.km (by simp only [maxLen];omega)
       obtain ⟨B,bN⟩:∃ B,B=bytesRow ⟨⟨l⟩⟩ (grownCap w l.length 0 E.km):=⟨_,rfl⟩
       obtain ⟨gl,l6⟩:∃ gl,gl=grownCap w l.length 0 E.km:=⟨_,rfl⟩
       rw [cX,<-bN,<-l6] at g8
       rw [<-l6] at hc qL
       have hy:bd E.P o a w (.slice (some ⟨w.heap.size,0,none⟩) l.length gl) (w.drew.alloc (.cells B E.km (B.size,B.size+ 1))):=by
        simp only [bd,execOp,ap,ad,Sem.run_bind,g8,Result.andThen_ok]
        rfl
       have jD:bp [] w (w.drew.alloc (.cells B E.km (B.size,B.size+ 1))):=(bp.drew [] w).trans (bp.alloc [] _ _) (by simp)
       refine ⟨_,ρ,hm.ff jD,Mem.Ca jD,fun k ai _=>jD.block k ai (by simp),_,hy,?_⟩
       simp only [au]
       refine ⟨_,gl,by rw [a5.Vv],by rw [a5.Vv];exact hc,qL,(fun h=>by cases h),fun _=>⟨rfl,⟨?_,?_,by show w.heap.size <_;simp⟩,_,a5.akZ _ _ _ _ (abA l),fun j u aC=>?_⟩⟩
       · intro ai
         have I:w.heap.size <W.heap.size:=(hm.hz _ ai).1
         have aa:=hm.b6.size
         omega
       · intro ai
         have I:w.heap.size <w.heap.size:=(hm.lt _ ai).1
         omega
       · rw [List.getElem?_map,Option.map_eq_some_iff] at aC
         obtain ⟨b,ah,rfl⟩:=aC
         obtain ⟨mY,fK⟩:=List.getElem?_eq_some_iff.1 ah
         have:=bytesRow_at ⟨⟨l⟩⟩ (grownCap w l.length 0 E.km) j (by simpa using mY)
         rw [<-bN] at this
         show World.cell? _ ⟨w.heap.size,0 +j,none⟩=_
         simp only [World.cell?,World.alloc]
         rw [show (w.drew.heap.push _)[w.heap.size]? =some _ from Array.getElem?_push_size (xs:=w.heap)]
         simp only [Nat.zero_add,this]
         simp [fK]
     · cases I
   · exact aj.elim
 · exact aj.elim
end
end bz
namespace bz
open Go Go.RowKit av J
def MS (E:Env) (bl:List (aF E.T.El)) (t FM:Nat) (u v:aI E.T.El):D (eg E.T.El):=match qx E.P t,jH (E.P.underlying FM),u,v with
 | some (e,sz,bY),some (.i .i64),.p (.slice none 0 0),.p (.int .i64 k)=>match Nat.beq sz 1 && Nat.beq (E.T.ty e).size 1,tO E e e with
   | true,some hR=>.op (C0 hR bY k) fun l=>.ok ⟨some (.r bl.length 0),bl++[.r e 0 0 l],[]⟩
   | _,_=>.no
 | _,_,_,_=>.no
section
variable {E:Env} {W w w':World} {M0:List Nat} {X:Nat->Prop} {n:cI} {f:cz E.T.El} {bl:List (aF E.T.El)} {ρ:List Value} {a:Act} {cur:List (Nat × Bool)}
theorem anr (a5:dn E) (hm:Mem E.T W M0 X bl ρ w) {o:Oper} {t FM:Nat} {x y:Operand} {u v:aI E.T.El} {r:eg E.T.El} (h:(MS E bl t FM u v).out r) (ap:o.op= .call { callee:=.builtin .append,args:=#[x,y],argTypes:=#[t,FM] })
 (ad:au E.T (bi X bl ρ w) w ρ bl u (a.eval x)) (ag:au E.T (bi X bl ρ w) w ρ bl v (a.eval y)):gC E o a W M0 X bl ρ w r:=by
 unfold MS at h
 split at h
 · rename_i e sz bY k he ai
   obtain ⟨hu,i0,eB,hi,ma,I,aa,aq,gS,c8⟩:=uL he
   have aoG:=sN ai
   split at h
   · rename_i hR ah aj
     simp only [Bool.and_eq_true] at ah
     have ao:=Nat.eq_of_beq_eq_true ah.1
     have iV:=Nat.eq_of_beq_eq_true ah.2
     subst ao
     obtain ⟨l,gH,hY⟩:=h
     have hY:(⟨some (.r bl.length 0),bl++[.r e 0 0 l],[]⟩:eg E.T.El)=r:=hY
     subst hY
     obtain ⟨hK,bf,rfl⟩:=akV gH
     obtain ⟨m,rfl⟩:=Int.eq_ofNat_of_zero_le (Int.le_of_lt hK)
     simp only [Int.toNat_natCast] at *
     have hle:m<=bY*m:=Nat.le_mul_of_pos_left m c8
     simp only [au] at ad ag
     have gT:(E.T.ty e).rd (bi X bl ρ w) w eB.cells.toList hR:=by
      unfold tO at aj
      split at aj
      · rename_i Gv jG
        split at aj
        · have e1:Gv=eB:=by
           simp only [CE,hi] at jG
           rw [ma] at jG
           exact (Option.some.inj jG).symm
          subst e1
          exact a5.tb.gU _ _ _ aj _ _ ρ bl _ (pZ _)
        · cases aj
      · cases aj
     obtain ⟨gl,l6⟩:∃ gl,eB.cells= #[gl]:=by
      revert aq
      generalize eB.cells=cs
      obtain ⟨l⟩:=cs
      intro aq
      cases l with
      | nil=>simp at aq
      | cons c r=>cases r with
        | nil=>exact ⟨c,rfl⟩
        | cons _ _=>simp at aq
     have g8:=Lib.run_append_nil_zeros (P:=E.P) w t FM o.type e i0 eB .i64 .i64 hu aoG hi ma m (by omega) (by omega) (by omega) (by rw [aa,Nat.mul_comm];omega)
     let cap:=grownCap w m 0 e
     have H6:m<=cap:=grownCap_ge w m 0 e
     have DH:cap<=maxLen:=grownCap_le_maxLen w m 0 e (by simp only [maxLen];omega)
     have PK:∀ q,(Builtin.zeroCells eB.cells q).toList=List.replicate q gl:=by
      intro q
      rw [l6]
      apply List.ext_getElem
      · simp [Builtin.zeroCells]
      · intro j I aa
        simp [Builtin.zeroCells,Nat.mod_one]
     let cur:=Builtin.zeroCells eB.cells m++Builtin.zeroCells eB.cells (cap - m)
     have hcs:cur.size=cap:=by simp only [cur,Array.size_append,size_zeroCells,l6];simp;omega
     have m3:bd E.P o a w (.slice (some ⟨w.heap.size,0,none⟩) m cap) (w.drew.alloc (.cells cur e)):=by
      simp only [bd,execOp,ap,resolve,invoke,builtin,Sem.run_bind,Sem.run_pure,Result.andThen_ok,List.map_toArray,List.map_cons,List.map_nil,ad,ag,g8,cap,cur]
     have jD:bp [] w (w.drew.alloc (.cells cur e)):=(bp.drew [] w).trans (bp.alloc [] w.drew (.cells cur e)) (by simp)
     have Ia:w.drew.heap.size=w.heap.size:=rfl
     have n':rowIs (w.drew.alloc (.cells cur e)) e 1 (.slice (some ⟨w.heap.size,0,none⟩) m cap) m (List.replicate m gl):=by
      refine .inl ⟨by simp,.inr ⟨w.heap.size,cap,cur,rfl,Nat.zero_le _,?_,H6,DH,by simp [hcs],?_⟩⟩
      · rw [<-Ia];exact heap_alloc_new w.drew _
      · simp only [cur,Array.toList_append,PK,Nat.mul_one]
        rw [List.take_append_of_le_length (by simp),List.take_of_length_le (by simp)]
     have qJ:cap=(cap - 1)+ 1 :=by omega
     have af:∀ q ∈ bw (aF.r (El:=E.T.El) e 0 0 (List.replicate m hR)) (.slice (some ⟨w.heap.size,0,none⟩) m cap),w.heap.size<=q/\q <(w.drew.alloc (.cells cur e)).heap.size:=fun q aQ=>by
      rw [qJ] at aQ
      have:q=w.heap.size:=by simpa [bw,bz.ah] using aQ
      subst this
      simp
     have aJ:=hm.ww (B:=aF.r e 0 0 (List.replicate m hR)) (h:=.slice (some ⟨w.heap.size,0,none⟩) m cap) jD af
     have aqe:∀ (q:Nat) (F:Nat->Prop) (w':World),(E.T.ty e).rd F w' [gl] hR->dO (E.T.ty e) F w' (List.replicate q gl) (List.replicate q hR):=fun q F w' h=>by
      induction q with
      | zero=>rfl
      | succ q ba=>exact ⟨[gl],List.replicate q gl,rfl,h,ba⟩
     refine ⟨_,ρ++[.slice (some ⟨w.heap.size,0,none⟩) m cap],hm.push jD af ⟨some ⟨w.heap.size,0,none⟩,cap,List.replicate m gl,by rw [List.length_replicate],by rw [iV,List.length_replicate];exact n',aqe m _ _ ?_⟩,aJ,fun k ai _=>jD.block k ai (by simp),_,m3,?_⟩
     · have:=(E.T.ty e).law aJ.F gT
       rwa [l6] at this
     · simp only [au]
       exact ⟨trivial,.slice (some ⟨w.heap.size,0,none⟩) m cap,by rw [<-hm.len];simp,Nat.zero_le _,fun _=>rfl⟩
   · exact h.elim
 · exact h.elim
end
end bz
namespace J
def fo {α:Type} (l:List α) (p:Nat) (ds:List α):List α:=l.take p++ds++l.drop (p+ds.length)
theorem BI {α:Type} {l:List α} {p:Nat} {ds:List α} (h:p+ds.length<=l.length):(fo l p ds).length=l.length:=by
 simp [fo];omega
end J
namespace bz
open Go Go.RowKit av J
theorem Xz (b:Nat):∀ (vs:List Value) (o:Nat) (w:World),bp [b] w (w.setCells b o vs)
 | [],_,w=>bp.refl _ w
 | v::r,o,w=>(bp.set w ⟨b,o,none⟩ v).trans (Xz b r (o+ 1) _) (fun x ad=>.inl ad)
theorem ab3 (b:Nat) (e:TypeId) (HR:Nat × Nat):∀ (vs:List Value) (o:Nat) (w:World) (cur:List Value),w.heap[b]? =some (.cells cur.toArray e HR)->o+vs.length<=cur.length ->
 (w.setCells b o vs).heap[b]? =some (.cells (fo cur o vs).toArray e HR)
 | [],o,w,cur,h,_=>by simpa [World.setCells,fo] using h
 | v::r,o,w,cur,h,ak=>by
   simp only [List.length_cons] at ak
   have ah:b <w.heap.size:=by
    rcases Nat.lt_or_ge b w.heap.size with h' | h'
    · exact h'
    · rw [Array.getElem?_eq_none h'] at h;cases h
   have I:(w.setCell ⟨b,o,none⟩ v).heap[b]? =some (.cells (cur.set o v).toArray e HR):=by
    simp only [World.setCell,Array.getElem?_modify,if_pos,h,Option.map_some]
    simp
   have:=ab3 b e HR r (o+ 1) _ (cur.set o v) I (by simp;omega)
   show ((w.setCell ⟨b,o,none⟩ v).setCells b (o+ 1) r).heap[b]? =_
   rw [this]
   have Ec:cur.set o v=cur.take o++v::cur.drop (o+ 1):=by rw [List.set_eq_take_append_cons_drop,if_pos (by omega)]
   have aJ:(cur.take o).length=o:=by rw [List.length_take];omega
   have e1:(cur.set o v).take (o+ 1)=cur.take o++[v]:=by
    rw [Ec,List.take_append,aJ,List.take_of_length_le (by rw [aJ];omega)]
    simp
   have e2:(cur.set o v).drop (o+ 1 +r.length)=cur.drop (o+(v::r).length):=by
    rw [List.drop_set_of_lt (by omega)]
    congr 1
    simp;omega
   simp only [fo]
   rw [e1,e2]
   simp
theorem aua {α:Type} {l ds:List α} {p n:Nat} (h:p+ds.length<=n) (aA:n<=l.length):(fo l p ds).take n=fo (l.take n) p ds:=S5 h aA
structure L0 (El:Nat->Type) where
 i:Nat
 t:Nat
 g:Nat
 k:Nat
 l:List (El t)
 lo:Int
 hi:Int
def JH {El:Nat->Type} (bl:List (aF El)):aI El->Option (L0 El)
 | .v i g lo hi=>match nth bl i with
   | some (.r t bB k l)=>match Nat.beq g bB with
     | true=>some ⟨i,t,bB,k,l,lo,hi⟩
     | false=>none
   | _=>none
 | .r i g=>match nth bl i with
   | some (.r t bB k l)=>match Nat.beq g bB with
     | true=>some ⟨i,t,bB,k,l,0,(l.length:Int)⟩
     | false=>none
   | _=>none
 | _=>none
def MW (E:Env) (bl:List (aF E.T.El)) (t:Nat) (u v:aI E.T.El):D (eg E.T.El):=match qx E.P t,JH bl u with
 | some (_,n,_),some p=>match Nat.beq n 1 && Nat.beq (E.T.ty p.t).size 1,FH E bl p.t v with
   | true,some m=>.op (tr (decide (0 <p.l.length))) fun _=>.ok ⟨some (.p (.int .i64 ((m.take (p.hi - p.lo).toNat).length:Int))),bl.set p.i (.r p.t p.g (p.k+ 1) (fo p.l p.lo.toNat (m.take (p.hi - p.lo).toNat))),[p.i]⟩
   | _,_=>.no
 | _,_=>.no
def MV (E:Env) (bl:List (aF E.T.El)) (t:Nat) (u:aI E.T.El):D (eg E.T.El):=match qx E.P t,JH bl u with
 | some (e,sz,_),some p=>match Nat.beq sz 1 && Nat.beq (E.T.ty p.t).size 1 && !(E.T.e p.t).agg,tO E p.t e with
   | true,some hR=>.op (tr (decide (p.lo <p.hi))) fun _=>.ok ⟨some (.u []),bl.set p.i (.r p.t p.g (p.k+ 1) (fo p.l p.lo.toNat (List.replicate (p.hi - p.lo).toNat hR))),[p.i]⟩
   | _,_=>.no
 | _,_=>.no
section
variable {E:Env} {W w w':World} {M0:List Nat} {X:Nat->Prop} {n:cI} {f:cz E.T.El} {bl:List (aF E.T.El)} {ρ:List Value} {a:Act} {cur:List (Nat × Bool)}
theorem aaW (hm:Mem E.T W M0 X bl ρ w) {u:aI E.T.El} {v:Value} {p:L0 E.T.El} (h:JH bl u=some p) (I:(E.T.ty p.t).size= 1) (ag:au E.T (bi X bl ρ w) w ρ bl u v) :
 bl[p.i]? =some (.r p.t p.g p.k p.l)/\ 0 <=p.lo/\p.lo<=p.hi/\p.hi<=p.l.length/\ ∃ A c B bC,ρ[p.i]? =some (.slice A p.l.length c)/\v= .slice B (p.hi.toNat - p.lo.toNat) bC/\(p.lo <p.hi->B=A.map (·.add p.lo.toNat)):=by
 unfold JH at h
 split at h
 · rename_i i g lo hi
   split at h
   · rename_i t bB k l cL
     rw [cU] at cL
     split at h
     · rename_i ah
       simp only [Option.some.injEq] at h
       subst h
       simp only [au] at ag
       obtain ⟨_,aL,bk,bH,bU⟩:=ag
       rw [cL] at bU
       obtain ⟨A,n,c,B,e1,e2,e3,e4,e5,e6,e7⟩:=bU (Nat.eq_of_beq_eq_true ah)
       obtain ⟨cN,bC,xs,f1,f2,f3⟩:=hm.ok _ _ _ cL bk
       rw [e1] at f1
       simp only [Value.slice.injEq] at f1
       obtain ⟨rfl,rfl,rfl⟩:=f1
       refine ⟨cL,e2,e3,e4,A,c,B,_,e1 ▸ bk,e5,fun bs=>?_⟩
       have:=e7 bs
       simp only [iv,I,Nat.mul_one] at this
       exact this
     · cases h
   · cases h
 · rename_i i g
   split at h
   · rename_i t bB k l cL
     rw [cU] at cL
     split at h
     · rename_i ah
       simp only [Option.some.injEq] at h
       subst h
       simp only [au] at ag
       obtain ⟨_,aL,bk,bH,bU⟩:=ag
       rw [cL] at bU
       have e:=bU (Nat.eq_of_beq_eq_true ah)
       subst e
       obtain ⟨cN,bC,xs,f1,f2,f3⟩:=hm.ok _ _ _ cL bk
       refine ⟨cL,Int.le_refl _,by simp,Int.le_refl _,cN,bC,cN,bC,f1 ▸ bk,by simpa using f1,fun _=>?_⟩
       cases cN with
       | none=>rfl
       | some ea=>
         simp [Addr.add]
     · cases h
   · cases h
 · cases h
theorem abP (hm:Mem E.T W M0 X bl ρ w) {o:Oper} {p:L0 E.T.El} {A:Option Addr} {c:Nat} (hi:bl[p.i]? =some (.r p.t p.g p.k p.l)) (bu:ρ[p.i]? =some (.slice A p.l.length c)) (I:(E.T.ty p.t).size= 1) {q:Nat} {ds:List (E.T.El p.t)} {vs:List Value} (ay:dO (E.T.ty p.t) (bi X bl ρ w) w vs ds) (bs:0 <p.l.length) (hle:q+ds.length<=p.l.length) :
 ∃ dS,A=some ⟨dS,0,none⟩/\vs.length=ds.length/\(∀ j,j <p.l.length->(w.cell? ⟨dS,j,none⟩).isSome=true)/\(∀ j,w.frozen? ⟨dS,j,none⟩=false) /\
   ∀ {r:Value} {y:aI E.T.El},(∀ (F:Nat->Prop) (w:World) (ρ:List Value) (bl:List (aF E.T.El)),au E.T F w ρ bl y r)->bd E.P o a w r (w.setCells dS q vs)->gC E o a W M0 X bl ρ w ⟨some y,bl.set p.i (.r p.t p.g (p.k+ 1) (fo p.l q ds)),[p.i]⟩:=by
 obtain ⟨cN,bC,xs,f1,f2,f3⟩:=hm.ok _ _ _ hi bu
 simp only [Value.slice.injEq,true_and] at f1
 obtain ⟨rfl,rfl⟩:=f1
 obtain ⟨dS,rfl,sq,hc,jU⟩:=rp bs f2
 have sH:=tw _ ay
 rw [I,Nat.mul_one] at sH
 have ob:=tw _ f3
 rw [I,Nat.mul_one] at ob
 have jV:=f2.own bs
 rw [I] at jV
 rcases jV.2 with ⟨_,aN⟩ | ⟨g',cap,cur,e1,e2,e3,e4,e5,e6,e7⟩
 · omega
 simp only [Value.slice.injEq,Option.some.injEq,Addr.mk.injEq,and_true,true_and] at e1
 obtain ⟨rfl,rfl⟩:=e1
 rw [Nat.mul_one] at e6 e7
 have OS:(⟨cur.toList⟩:Array Value)=cur:=by simp
 refine ⟨dS,rfl,sH,fun j aC=>?_,fun j=>by simp [World.frozen?,e3],fun {r y} hy m3=>?_⟩
 · have:j <cur.size:=by omega
   simp [World.cell?,e3,this]
 have az:bw (aF.r p.t p.g p.k p.l) (.slice (some ⟨dS,0,none⟩) p.l.length c)= [dS]:=jU _
 have jD:bp (bw (aF.r p.t p.g p.k p.l) (.slice (some ⟨dS,0,none⟩) p.l.length c)) w (w.setCells dS q vs):=by rw [az];exact Xz dS vs q w
 have aps:=ab3 dS p.t (0,0) vs q w cur.toList (by rw [<-OS] at e3;exact e3) (by simp;omega)
 have n':rowIs (w.setCells dS q vs) p.t 1 (.slice (some ⟨dS,0,none⟩) p.l.length c) p.l.length (fo xs q vs):=by
  refine .inl ⟨by rw [BI (by omega),ob,Nat.mul_one],.inr ⟨dS,c,_,rfl,e2,aps,e4,e5,?_,?_⟩⟩
  · have:=BI (l:=cur.toList) (p:=q) (ds:=vs) (by simp;omega)
    simpa [e6] using this
  · simp only [Nat.mul_one]
    rw [aua (by omega) (by simp;omega),e7]
 have af:∀ k ∈ bw (aF.r p.t p.g (p.k+ 1) (fo p.l q ds)) (.slice (some ⟨dS,0,none⟩) p.l.length c),k ∈ bw (aF.r p.t p.g p.k p.l) (.slice (some ⟨dS,0,none⟩) p.l.length c)\/(w.heap.size<=k/\k <(w.setCells dS q vs).heap.size):=fun k ai=>.inl ai
 have DZ:∀ {h:Value},(¬ mf h->h=h)/\b1 (some (aF.r p.t p.g p.k p.l))<=b1 (some (aF.r p.t p.g (p.k+ 1) (fo p.l q ds)))/\(b1 (some (aF.r p.t p.g (p.k+ 1) (fo p.l q ds)))=b1 (some (aF.r p.t p.g p.k p.l))->h=h/\iv E.T (some (aF.r p.t p.g (p.k+ 1) (fo p.l q ds)))=iv E.T (some (aF.r p.t p.g p.k p.l))/\gx (some (aF.r p.t p.g p.k p.l))<=gx (some (aF.r p.t p.g (p.k+ 1) (fo p.l q ds)))/\(gx (some (aF.r p.t p.g (p.k+ 1) (fo p.l q ds)))=gx (some (aF.r p.t p.g p.k p.l))->p0 (some (aF.r p.t p.g (p.k+ 1) (fo p.l q ds)))=p0 (some (aF.r p.t p.g p.k p.l)))):=fun {h}=>
  ⟨fun _=>rfl,Nat.le_refl _,fun _=>⟨rfl,rfl,Nat.le_succ _,fun e=>by simp [gx] at e⟩⟩
 have aJ:=hm.Cb (B':=aF.r p.t p.g (p.k+ 1) (fo p.l q ds)) (h':=.slice (some ⟨dS,0,none⟩) p.l.length c) hi bu jD af DZ
 have ao:=B6 bu
 have gT:dO (E.T.ty p.t) (bi X (bl.set p.i (.r p.t p.g (p.k+ 1) (fo p.l q ds))) ρ (w.setCells dS q vs)) (w.setCells dS q vs) (fo xs q vs) (fo p.l q ds):=by
  rw [ao] at aJ
  have b9:=mq _ aJ.F f3
  have cJ:=mq _ aJ.F ay
  have c1:=rm 0 q b9
  have c2:=rm (q+ds.length) p.l.length b9
  rw [I] at c1 c2
  simp only [Nat.mul_one,Nat.zero_mul,List.drop_zero] at c1 c2
  rw [List.take_of_length_le (by omega),List.take_of_length_le (by omega)] at c2
  have:=Fc _ c2 (Fc _ cJ c1)
  unfold fo
  rw [sH]
  exact this
 have dV:=hm.ej (B':=aF.r p.t p.g (p.k+ 1) (fo p.l q ds)) (h':=.slice (some ⟨dS,0,none⟩) p.l.length c) hi bu jD af aJ (by
  rw [ao]
  exact ⟨some ⟨dS,0,none⟩,c,fo xs q vs,by rw [BI hle],by rw [I,BI hle];exact n',gT⟩)
 rw [ao] at dV aJ
 exact ⟨_,ρ,dV,aJ,fun k ai cM=>jD.block k ai (cM p.i (by simp) _ _ hi bu),r,m3,hy _ _ _ _⟩
theorem anw (a5:dn E) (hm:Mem E.T W M0 X bl ρ w) {o:Oper} {t:Nat} {x y:Operand} {u v:aI E.T.El} {r:eg E.T.El} (h:(MW E bl t u v).out r) (ap:o.op= .call { callee:=.builtin .copy,args:=#[x,y],argTypes:=#[t,t] })
 (ad:au E.T (bi X bl ρ w) w ρ bl u (a.eval x)) (hy:au E.T (bi X bl ρ w) w ρ bl v (a.eval y)):gC E o a W M0 X bl ρ w r:=by
 unfold MW at h
 split at h
 · rename_i e n bY p he aD
   obtain ⟨hu,i0,eB,jF,ma,fL,iV,Y1,gS,aqk⟩:=uL he
   split at h
   · rename_i m ah Pv
     simp only [Bool.and_eq_true] at ah
     have aA:=Nat.eq_of_beq_eq_true ah.1
     have I:=Nat.eq_of_beq_eq_true ah.2
     subst aA
     obtain ⟨_,n9,h⟩:=h
     have n9:0 <p.l.length:=of_decide_eq_true (QU n9)
     have h:(⟨some (.p (.int .i64 ((m.take (p.hi - p.lo).toNat).length:Int))),bl.set p.i (.r p.t p.g (p.k+ 1) (fo p.l p.lo.toNat (m.take (p.hi - p.lo).toNat))),[p.i]⟩:eg E.T.El)=r:=h
     subst h
     obtain ⟨hi,l1,cj,jp,A,c,B,bC,bu,e1,e2⟩:=aaW hm aD I ad
     obtain ⟨cZ,c2,news,s1,s2,Fp⟩:=acb a5 hm Pv hy
     have D9:=tw _ Fp
     rw [I,Nat.mul_one] at D9
     have ai:(m.take (p.hi - p.lo).toNat).length=Nat.min m.length (p.hi.toNat - p.lo.toNat):=by
      rw [List.length_take,Nat.min_comm]
      congr 1
      omega
     have qM:=rm 0 (p.hi - p.lo).toNat Fp
     rw [I] at qM
     simp only [Nat.mul_one,Nat.zero_mul,List.drop_zero] at qM
     have Ik:(E.P.info? e).map (·.size)=some 1 :=by rw [jF];simp [fL]
     obtain ⟨dS,rfl,sH,ij,OZ,fin⟩:=abP (o:=o) (a:=a) (q:=p.lo.toNat) hm hi bu I qM n9 (by rw [ai];have:=Nat.min_le_right m.length (p.hi.toNat - p.lo.toNat);have e:Nat.min m.length (p.hi.toNat - p.lo.toNat)=min m.length (p.hi.toNat - p.lo.toNat):=rfl;omega)
     refine fin (r:=.int .i64 ((m.take (p.hi - p.lo).toNat).length:Int)) (fun F w ρ bl=>by simp only [au]) ?_
     rcases Nat.eq_zero_or_pos (m.take (p.hi - p.lo).toNat).length with aN | aN
     · have g8:=run_copy_none (P:=E.P) w t t o.type e B cZ (p.hi.toNat - p.lo.toNat) bC m.length c2 hu Ik (by rw [<-ai];exact aN)
       have ch:news.take (p.hi - p.lo).toNat= []:=List.eq_nil_of_length_eq_zero (sH.trans aN)
       rw [ch,aN]
       simp only [bd,execOp,ap,resolve,invoke,builtin,Sem.run_bind,Sem.run_pure,Result.andThen_ok,List.map_toArray,List.map_cons,List.map_nil,e1,s1,g8]
       rfl
     · have bs:p.lo <p.hi:=by
        rw [ai] at aN
        have e:Nat.min m.length (p.hi.toNat - p.lo.toNat)=min m.length (p.hi.toNat - p.lo.toNat):=rfl
        omega
       rcases s2 with ⟨bk,_⟩ | ⟨ea,rfl,bH,bU,fp⟩
       · rw [ai,bk] at aN
         have e:Nat.min 0 (p.hi.toNat - p.lo.toNat)=min 0 (p.hi.toNat - p.lo.toNat):=rfl
         omega
       · have bN:=e2 bs
         have bN:B=some ⟨dS,p.lo.toNat,none⟩:=by rw [bN];simp [Addr.add];try omega
         subst bN
         have g8:=run_copy_cells (P:=E.P) w t t o.type e dS p.lo.toNat (p.hi.toNat - p.lo.toNat) bC ea m.length c2 (news.take (p.hi - p.lo).toNat) hu Ik (by rw [sH,ai]) (fun j u aC=>by
          rw [List.getElem?_take] at aC
          split at aC
          · exact bU j u aC
          · cases aC) (fun j aC=>ij _ (by rw [sH,ai] at aC;have e:Nat.min m.length (p.hi.toNat - p.lo.toNat)=min m.length (p.hi.toNat - p.lo.toNat):=rfl;omega)) (fun j _=>OZ _) (fun v ag=>fp v (List.mem_of_mem_take ag))
         rw [<-sH]
         simp only [bd,execOp,ap,resolve,invoke,builtin,Sem.run_bind,Sem.run_pure,Result.andThen_ok,List.map_toArray,List.map_cons,List.map_nil,e1,s1,g8]
         rfl
   · exact h.elim
 · exact h.elim
theorem anv (a5:dn E) (hm:Mem E.T W M0 X bl ρ w) {o:Oper} {t:Nat} {x:Operand} {u:aI E.T.El} {r:eg E.T.El} (h:(MV E bl t u).out r) (ap:o.op= .call { callee:=.builtin .clear,args:=#[x],argTypes:=#[t] })
 (ad:au E.T (bi X bl ρ w) w ρ bl u (a.eval x)):gC E o a W M0 X bl ρ w r:=by
 unfold MV at h
 split at h
 · rename_i e n bY p he aD
   obtain ⟨hu,i0,eB,jF,ma,fL,iV,Y1,gS,aqk⟩:=uL he
   split at h
   · rename_i hR ah aj
     simp only [Bool.and_eq_true] at ah
     have sm:(E.T.e p.t).agg=false:=by simpa using ah.2
     have aA:=Nat.eq_of_beq_eq_true ah.1.1
     have I:=Nat.eq_of_beq_eq_true ah.1.2
     subst aA
     obtain ⟨_,n9,h⟩:=h
     have bs:p.lo <p.hi:=of_decide_eq_true (QU n9)
     have h:(⟨some (.u []),bl.set p.i (.r p.t p.g (p.k+ 1) (fo p.l p.lo.toNat (List.replicate (p.hi - p.lo).toNat hR))),[p.i]⟩:eg E.T.El)=r:=h
     subst h
     obtain ⟨hi,l1,cj,jp,A,c,B,bC,bu,e1,e2⟩:=aaW hm aD I ad
     obtain ⟨gl,l6⟩:∃ gl,eB.cells= #[gl]:=by
      revert Y1
      generalize eB.cells=cs
      obtain ⟨l⟩:=cs
      intro aq
      cases l with
      | nil=>simp at aq
      | cons c r=>cases r with
        | nil=>exact ⟨c,rfl⟩
        | cons _ _=>simp at aq
     have gT:(E.T.ty p.t).rd (bi X bl ρ w) w [gl] hR/\eB=gl:=by
      unfold tO at aj
      split at aj
      · rename_i Gv jG
        split at aj
        · rename_i aqM
          have e1:Gv=eB:=by
           simp only [CE,jF] at jG
           rw [ma] at jG
           exact (Option.some.inj jG).symm
          subst e1
          have:=a5.tb.gU _ _ _ aj (bi X bl ρ w) w ρ bl _ (pZ _)
          rw [l6] at this
          have Yf:=agY aqM
          rw [sm,l6] at Yf
          exact ⟨this,Yf⟩
        · cases aj
      · cases aj
     obtain ⟨gT,En⟩:=gT
     have yB:gl.oneCell'=true:=(E.T.ty p.t).one gT gl (by simp)
     have iR:dO (E.T.ty p.t) (bi X bl ρ w) w (List.replicate (p.hi - p.lo).toNat gl) (List.replicate (p.hi - p.lo).toNat hR):=by
      generalize (p.hi - p.lo).toNat=q
      induction q with
      | zero=>rfl
      | succ q ba=>exact ⟨[gl],List.replicate q gl,rfl,gT,ba⟩
     obtain ⟨dS,rfl,sH,ij,OZ,fin⟩:=abP (o:=o) (a:=a) (q:=p.lo.toNat) hm hi bu I iR (by omega) (by rw [List.length_replicate];omega)
     refine fin (fun F w ρ bl=>by simp only [au];exact ⟨[],rfl,by simp [a3]⟩) ?_
     have bN:=e2 bs
     have bN:B=some ⟨dS,p.lo.toNat,none⟩:=by rw [bN];simp [Addr.add];try omega
     subst bN
     have g8:=Lib.run_clear_slice (P:=E.P) w t e o.type eB hu (fun w=>by simp only [zeroValue,typeInfo,Sem.run_bind];simp [go_sem,jF,ma]) (by rw [l6,En]) (by rw [En];exact yB) dS p.lo.toNat (p.hi.toNat - p.lo.toNat) bC (by omega) (fun j aC=>ij _ (by omega)) (fun j _=>OZ _)
     have e:p.hi.toNat - p.lo.toNat=(p.hi - p.lo).toNat:=by omega
     rw [e,En] at g8
     simp only [bd,execOp,ap,resolve,invoke,builtin,Sem.run_bind,Sem.run_pure,Result.andThen_ok,List.map_toArray,List.map_cons,List.map_nil,e1,e,g8]
   · exact h.elim
 · exact h.elim
end
end bz
namespace bz
open Go Go.RowKit av J
def HB (E:Env) (bl:List (aF E.T.El)) (f:cz E.T.El) (cur:List (Nat × Bool)):Op->D (eg E.T.El)
 | .alloc t=>match z4 E.P t with
   | some z=>.ok ⟨some (.b bl.length 0),bl++[.c t (z.map .p)],[]⟩
   | none=>.no
 | .box t x=>match cR E bl f cur x with
   | some y=>.ok ⟨some (.b bl.length 0),bl++[.c t (cellsOf y)],[]⟩
   | none=>.no
 | .makeMap t none=>match mapOf E.P t with
   | some (k,e)=>match (E.T.e k).key with
     | some _=>.ok ⟨some (.m bl.length),bl++[.m k e []],[]⟩
     | none=>.no
   | none=>.no
 | .store t p x=>match cR E bl f cur p,cR E bl f cur x with
   | some u,some v=>M_ E bl t u v
   | _,_=>.no
 | .mapUpdate t m k x=>match cR E bl f cur m,cR E bl f cur k,cR E bl f cur x with
   | some u,some v,some z=>HC E bl t u v z
   | _,_,_=>.no
 | .insert t m k x=>match cR E bl f cur m,cR E bl f cur k,cR E bl f cur x with
   | some u,some v,some z=>HC E bl t u v z
   | _,_,_=>.no
 | .buildSlice t n ⟨ps⟩=>match BE E bl f cur ps with
   | some ys=>M1 E bl t n ys
   | none=>.no
 | .makeSlice t x y=>match cR E bl f cur x with
   | some u=>M6 E bl t x y u
   | none=>.no
 | .convert s d x=>match cR E bl f cur x with
   | some u=>M' E bl s d u
   | none=>.no
 | .call ⟨.builtin .append,⟨[x,y]⟩,⟨[t,t']⟩⟩=>match Nat.beq t t',cR E bl f cur x,cR E bl f cur y with
   | true,some u,some v=>MR E bl t u v
   | false,some u,some v=>MS E bl t t' u v
   | _,_,_=>.no
 | .call ⟨.builtin .copy,⟨[x,y]⟩,⟨[t,t']⟩⟩=>match Nat.beq t t',cR E bl f cur x,cR E bl f cur y with
   | true,some u,some v=>MW E bl t u v
   | _,_,_=>.no
 | .call ⟨.builtin .clear,⟨[x]⟩,⟨[t]⟩⟩=>match cR E bl f cur x with
   | some u=>MV E bl t u
   | none=>.no
 | _=>.no
section
variable {E:Env} {W w w':World} {M0:List Nat} {X:Nat->Prop} {n:cI} {f:cz E.T.El} {bl:List (aF E.T.El)} {ρ:List Value} {a:Act} {cur:List (Nat × Bool)}
theorem anA (a5:dn E) (h:R E W M0 X n f bl ρ a w) (hc:iN a cur) {o:Oper} {op:Op} (ap:o.op=op) {r:eg E.T.El} (aj:(HB E bl f cur op).out r):gC E o a W M0 X bl ρ w r:=by
 unfold HB at aj
 split at aj
 · rename_i t
   split at aj
   · rename_i z I
     have aj:(⟨some (.b bl.length 0),bl++[.c t (z.map .p)],[]⟩:eg E.T.El)=r:=aj
     subst aj
     obtain ⟨eB,bf,bh⟩:=Gu I
     exact aaf h.mem (pZ z) (w4 bf bh ap)
   · exact aj.elim
 · rename_i t x
   split at aj
   · rename_i y I
     have aj:(⟨some (.b bl.length 0),bl++[.c t (cellsOf y)],[]⟩:eg E.T.El)=r:=aj
     subst aj
     exact aaf h.mem (mM (dg h hc I)) (LB (v:=a.eval x) (by simp) ap rfl)
   · exact aj.elim
 · rename_i t
   split at aj
   · rename_i k e I
     split at aj
     · rename_i K aa
       have aj:(⟨some (.m bl.length),bl++[.m k e []],[]⟩:eg E.T.El)=r:=aj
       subst aj
       exact atl h.mem aa (aBU ap)
     · exact aj.elim
   · exact aj.elim
 · split at aj
   · rename_i u v I aa
     exact anM a5 h.mem aj ap (dg h hc I) (dg h hc aa)
   · exact aj.elim
 · split at aj
   · rename_i u v z I aa aq
     exact Xx a5 h.mem aj (.inl ap) (dg h hc I) (dg h hc aa) (dg h hc aq)
   · exact aj.elim
 · split at aj
   · rename_i u v z I aa aq
     exact Xx a5 h.mem aj (.inr ap) (dg h hc I) (dg h hc aa) (dg h hc aq)
   · exact aj.elim
 · split at aj
   · rename_i ys I
     exact anD a5 h.mem aj ap (Q2 h hc I)
   · exact aj.elim
 · split at aj
   · rename_i u I
     exact anI a5 h.mem aj ap (dg h hc I)
   · exact aj.elim
 · split at aj
   · rename_i u I
     exact anN a5 h.mem aj ap (dg h hc I)
   · exact aj.elim
 · rename_i x y t t'
   split at aj
   · rename_i u v I aa aq
     have:=Nat.eq_of_beq_eq_true I
     subst this
     exact ans a5 h.mem aj ap (dg h hc aa) (dg h hc aq)
   · rename_i u v I aa aq
     exact anr a5 h.mem aj ap (dg h hc aa) (dg h hc aq)
   · exact aj.elim
 · rename_i x y t t'
   split at aj
   · rename_i u v I aa aq
     have:=Nat.eq_of_beq_eq_true I
     subst this
     exact anw a5 h.mem aj ap (dg h hc aa) (dg h hc aq)
   · exact aj.elim
 · split at aj
   · rename_i u I
     exact anv a5 h.mem aj ap (dg h hc I)
   · exact aj.elim
 · exact aj.elim
end
inductive GM
 | q
 | e
 | c
 | no
def IL (P:Program):Op->GM
 | .call c=>match c.callee with
   | .value _=>.c
   | .builtin .len=>.q
   | .builtin .cap=>.q
   | .builtin .append=>.e
   | .builtin .copy=>.e
   | .builtin .clear=>.e
   | _=>.no
 | .alloc _ | .box _ _ | .makeMap _ _ | .store _ _ _ | .mapUpdate _ _ _ _ | .insert _ _ _ _ | .buildSlice _ _ _ | .makeSlice _ _ _=>.e
 | .convert s _ _=>match P.underlying s with
   | some .string=>.e
   | _=>.q
 | .move _ | .assign _ | .pick _ _ _ | .binOp _ _ _ _ _ | .unOp _ _ _ | .load _ _ | .fieldAddr _ _ _ | .nilCheck _ | .extract _ _ | .makeFunc _ _ _ | .makeInterface _ _ | .indexAddr _ _ _ | .index _ _ _
   | .slice _ _ _ _ _ | .lookup _ _ _ _ | .field _ _ _ | .build _ _=>.q
 | _=>.no
inductive U5
 | run
 | skip
 | maybe (br:Nat) (want b:Bool)
 | cond (br:Nat) (want:Bool)
 | no
def Ax:Bool->Bool->Bool
 | true,true=>true
 | false,false=>true
 | _,_=>false
theorem uA {a b:Bool}:Ax a b=true ↔ a=b:=by cases a <;> cases b <;> simp [Ax]
def HV (E:Env) (ops:Array Oper) (f:cz E.T.El) (n:Nat):Option (Nat × Bool)->U5
 | none=>.run
 | some (j,want)=>match Dr ops j with
   | none=>.no
   | some br=>match Nat.blt br n with
     | false=>.no
     | true=>match ev f.dX br with
       | some b=>match Ax b want with
         | true=>.run
         | false=>.skip
       | none=>match ev f.a_ br with
         | some (.p (.tuple ⟨[]⟩))=>.skip
         | some (.p (.bool b))=>match E.gG with
           | true=>match Ax b want with
             | true=>.run
             | false=>.skip
           | false=>.maybe br want b
         | some _=>.no
         | none=>.cond br want
section
variable {E:Env} {W w w':World} {M0:List Nat} {X:Nat->Prop} {n:cI} {f:cz E.T.El} {bl:List (aF E.T.El)} {ρ:List Value} {a:Act} {cur:List (Nat × Bool)} {ops:Array Oper} {o:Oper}
theorem ayk {j br:Nat} {want:Bool} (ao:a.tmps.size=n.n) (aw:o.guard=some (j,want)) (aC:(ops[j]?).bind (·.dst)=some br) (aA:Nat.blt br n.n=true) :
 Region.wanted o (yielded ops a.tmps)=true ↔ a.tmps.getD br undef= .bool want:=by
 have bs:br <n.n:=Nat.le_of_ble_eq_true aA
 have aa:a.tmps[br]? =some (a.tmps.getD br undef):=by
  rw [Array.getElem?_eq_getElem (by omega)]
  simp [Array.getD_eq_getD_getElem?,ao,bs]
 simp only [Region.wanted,aw,yielded,aC,Option.bind_some,aa,beq_iff_eq]
 constructor
 · intro h
   split at h
   · rename_i b ah
     simp only [Option.some.injEq] at h ah
     rw [ah,h]
   · cases h
 · intro h
   rw [h]
def akL (E:Env) (ops:Array Oper) (o:Oper) (a:Act) (f:cz E.T.El) (n:Nat):U5->Prop
 | .run=>Region.wanted o (yielded ops a.tmps)=true
 | .skip=>Region.wanted o (yielded ops a.tmps)=false
 | .maybe br want b=>Nat.blt br n=true/\a.tmps.getD br undef= .bool b/\(Region.wanted o (yielded ops a.tmps)=true ↔ a.tmps.getD br undef= .bool want)
 | .cond br want=>Nat.blt br n=true/\(Region.wanted o (yielded ops a.tmps)=true ↔ a.tmps.getD br undef= .bool want)
 | .no=>True
theorem XZ (h:R E W M0 X n f bl ρ a w):akL E ops o a f n.n (HV E ops f n.n o.guard):=by
 have ao:=h.gR.ic.size
 cases aw:o.guard with
 | none=>exact KA aw
 | some p=>
   obtain ⟨j,want⟩:=p
   simp only [HV]
   split
   · trivial
   · rename_i br qN
     have yq:=Yb qN
     split
     · trivial
     · rename_i aA
       have hw:=ayk (ops:=ops) (o:=o) ao aw yq aA
       split
       · rename_i b ai
         have e:=h.gR.dX _ (mi ai)
         split
         · rename_i ah
           rw [uA] at ah
           subst ah
           exact hw.2 e
         · rename_i ah
           refine (Bool.eq_false_iff).2 fun ad=>?_
           have:=hw.1 ad
           rw [e] at this
           injection this with this
           rw [uA.2 this] at ah
           cases ah
       · split
         · rename_i af
           have e:=h.gR.ic.get _ _ af
           simp only [au] at e
           refine (Bool.eq_false_iff).2 fun ad=>?_
           have:=hw.1 ad
           rw [e] at this
           cases this
         · rename_i b af
           have e:=h.gR.ic.get _ _ af
           simp only [au] at e
           split
           · split
             · rename_i ah
               rw [uA] at ah
               subst ah
               exact hw.2 e
             · rename_i ah
               refine (Bool.eq_false_iff).2 fun ad=>?_
               have:=hw.1 ad
               rw [e] at this
               injection this with this
               rw [uA.2 this] at ah
               cases ah
           · exact ⟨aA,e,hw⟩
         · trivial
         · exact ⟨aA,hw⟩
end
end bz
namespace bz
open Go Go.RowKit av J
section
variable {α:Type} {β:Type 1}
noncomputable def qC (l:List α) (k:List α->β):β:=List.rec (motive:=fun _=>(List α->β)->β) (fun k=>k []) (fun p _ ba k=>ba fun r=>k (p::r)) l k
theorem Nr (l:List α):∀ k:List α->β,qC l k=k l:=by
 induction l with
 | nil=>exact fun k=>rfl
 | cons p r ba=>exact fun k=>ba fun r=>k (p::r)
noncomputable def n3 (n:Nat) (k:Nat->β):β:=Nat.casesOn (motive:=fun _=>β) n (k 0) fun m=>k (Nat.succ m)
theorem HN (n:Nat) (k:Nat->β):n3 n k=k n:=by cases n <;> rfl
noncomputable def HM (n:Int) (k:Int->β):β:=Int.casesOn (motive:=fun _=>β) n (fun m=>n3 m fun m=>k (Int.ofNat m)) (fun m=>n3 m fun m=>k (Int.negSucc m))
theorem XQ (n:Int) (k:Int->β):HM n k=k n:=by
 cases n
 · rename_i m;exact HN m fun m=>k (Int.ofNat m)
 · rename_i m;exact HN m fun m=>k (Int.negSucc m)
noncomputable def XP (b:Bool) (k:Bool->β):β:=Bool.casesOn (motive:=fun _=>β) b (k false) (k true)
theorem an0 (b:Bool) (k:Bool->β):XP b k=k b:=by cases b <;> rfl
noncomputable def Ns (v:Value) (k:Value->β):β:=match v with
 | .int i n=>HM n fun n=>k (.int i n)
 | .bool b=>XP b fun b=>k (.bool b)
 | v=>k v
theorem an4 (v:Value) (k:Value->β):Ns v k=k v:=by
 unfold Ns
 split
 · exact XQ _ _
 · exact an0 _ _
 · rfl
variable {El:Nat->Type}
noncomputable def Nt (y:aI El) (k:aI El->β):β:=match y with
 | .p v=>Ns v fun v=>k (.p v)
 | .b i o=>n3 i fun i=>n3 o fun o=>k (.b i o)
 | .r i g=>n3 i fun i=>n3 g fun g=>k (.r i g)
 | .v i g lo hi=>n3 i fun i=>n3 g fun g=>HM lo fun lo=>HM hi fun hi=>k (.v i g lo hi)
 | .s t l=>qC l fun l=>k (.s t l)
 | .a l=>qC l fun l=>k (.a l)
 | y=>k y
theorem an5 (y:aI El) (k:aI El->β):Nt y k=k y:=by
 unfold Nt
 split <;> simp only [an4,HN,XQ,Nr]
noncomputable def HL (B:aF El) (k:aF El->β):β:=match B with
 | .c ty cs=>qC cs fun cs=>k (.c ty cs)
 | .r t g n l=>n3 g fun g=>n3 n fun n=>qC l fun l=>k (.r t g n l)
 | .k t sz g cs=>n3 g fun g=>qC cs fun cs=>k (.k t sz g cs)
 | .m bP vt d=>qC d fun d=>k (.m bP vt d)
 | B=>k B
theorem an2 (B:aF El) (k:aF El->β):HL B k=k B:=by
 unfold HL
 split <;> simp only [HN,Nr]
noncomputable def HK (ws:List Nat) (ou:Nat) (l:List (aF El)):Nat->(List (aF El)->β)->β:=List.rec (motive:=fun _=>Nat->(List (aF El)->β)->β) (fun _ k=>k []) (fun B _ ba n k=>cond (fy ws n || Nat.ble ou n) (HL B fun B=>ba (n+ 1) fun r=>k (B::r)) (ba (n+ 1) fun r=>k (B::r))) l
theorem an1 (ws:List Nat) (ou:Nat) (l:List (aF El)):∀ (n:Nat) (k:List (aF El)->β),HK ws ou l n k=k l:=by
 induction l with
 | nil=>exact fun n k=>rfl
 | cons B r ba=>
   intro n k
   show cond (fy ws n || Nat.ble ou n) (HL B fun B=>HK ws ou r (n+ 1) fun r=>k (B::r)) (HK ws ou r (n+ 1) fun r=>k (B::r))=_
   rw [an2,ba]
   cases fy ws n || Nat.ble ou n <;> rfl
noncomputable def Nq (f:cz El) (k:cz El->β):β:=match f with
 | ⟨(d,y)::r,gs,dX⟩=>Nt y fun y=>qC r fun r=>qC gs fun gs=>qC dX fun dX=>k ⟨(d,y)::r,gs,dX⟩
 | f=>k f
theorem an3 (f:cz El) (k:cz El->β):Nq f k=k f:=by
 unfold Nq
 split <;> simp only [an5,Nr]
end
noncomputable def zm (E:Env) {β:Type 1} (f:cz E.T.El) (k:cz E.T.El->β):β:=match E.gG with
 | true=>Nq f k
 | false=>k f
theorem EU {E:Env} {β:Type 1} (f:cz E.T.El) (k:cz E.T.El->β):zm E f k=k f:=by
 unfold zm
 split
 · exact an3 f k
 · rfl
noncomputable def ET (E:Env) {β:Type 1} (ws:List Nat) (ou:Nat) (l:List (aF E.T.El)) (k:List (aF E.T.El)->β):β:=match E.gG with
 | true=>HK ws ou l 0 k
 | false=>k l
theorem QZ {E:Env} {β:Type 1} (ws:List Nat) (ou:Nat) (l:List (aF E.T.El)) (k:List (aF E.T.El)->β):ET E ws ou l k=k l:=by
 unfold ET
 split
 · exact an1 ws ou l 0 k
 · rfl
end bz
