/- Part 2 of the proof that is ended in the last text: small logic, what the functions compute, walks, plain laws. -/
import Derived.Test.YteeliipnilghaaaGreatFl1
import Derived.Lib.AppendStr
import Derived.Lib.UnsafeStr
import Derived.Lib.Builder
import Derived.Laws.Externs
import Derived.LaidEql
import Derived.WalkSmall
import Derived.Laws.IdiomCopy
import Derived.Lib.SliceRun
namespace bn
open Go Go.RowKit au J
def ag:Value->List Nat
 | .pointer (some a)=>[a.block]
 | .map (some r)=>[r]
 | .slice (some a) _ (_+ 1)=>[a.block]
 | _=>[]
def bA {El:Nat->Type}:aC El->Value->List Nat
 | .z _ _ _ _,_=>[]
 | .no _,_=>[]
 | _,h=>ag h
def n6 {El:Nat->Type} (bl:List (aC El)) (ρ:List Value) (k:Nat):Prop:=∃ (i:Nat) (B:aC El) (h:Value),bl[i]? =some B/\ρ[i]? =some h/\k ∈ bA B h
def bh {El:Nat->Type} (X:Nat->Prop) (bl:List (aC El)) (ρ:List Value) (w:World):Nat->Prop:=fun k=>¬ X k/\ ¬ n6 bl ρ k/\k <w.heap.size
def rowIs (w:World) (t sz:Nat) (h:Value) (n:Nat) (xs:List Value):Prop:=w.ownsRow 0 t sz h n xs\/(n= 0 /\xs= []/\ ∃ A,h= .slice A 0 0)
section
variable (T:bT) (F:Nat->Prop) (w:World)
variable (ρ:List Value) (bl:List (aC T.El))
def ih:aC T.El->Value->Prop
 | .c ty cs,h=>∃ g vs,h= .pointer (some ⟨g,0,none⟩)/\w.heap[g]? =some (.cells ⟨vs⟩ ty (0,0))/\a4 T F w ρ bl cs vs
 | .r t _ _ l,h=>∃ A c xs,h= .slice A l.length c/\rowIs w t (T.ty t).size h l.length xs/\dS (T.ty t) F w xs l
 | .k t sz _ cs,h=>∃ A n c xs,h= .slice A n c/\rowIs w t sz h n xs/\a4 T F w ρ bl cs xs
 | .z t _ _ l,h=>(b4 (T.ty t)).rd F w [h] l
 | .m kt vt d,h=>∃ r,h= .map (some r)/\vf T F w kt vt r d
 | .o TC,h=>∃ g,h= .pointer (some ⟨g,0,none⟩)/\w.heap[g]? =some TC
 | .no _,_=>True
end
section
variable {T:bT} {F F':Nat->Prop} {w w':World} {ρ ρ':List Value} {bl bl':List (aC T.El)}
theorem rowIs.len {t sz n:Nat} {h:Value} {xs:List Value} (e:rowIs w t sz h n xs):xs.length=n*sz:=by
 rcases e with e | ⟨rfl,rfl,_⟩
 · exact e.1
 · simp
theorem rowIs.own {t sz n:Nat} {h:Value} {xs:List Value} (e:rowIs w t sz h n xs) (aJ:0 <n):w.ownsRow 0 t sz h n xs:=by
 rcases e with e | ⟨rfl,_⟩
 · exact e
 · omega
theorem rowIs.cap {t sz n c:Nat} {A:Option Addr} {xs:List Value} (e:rowIs w t sz (.slice A n c) n xs):n<=c/\c<=maxLen/\(A=none->c= 0)/\(0 <c-> ∃ g,A=some ⟨g,0,none⟩):=by
 rcases e with e | ⟨rfl,_,cj,e⟩
 · rcases e.2 with ⟨I,aQ⟩ | ⟨g,cap,cur,I,_,_,aa,aw,_⟩
   · simp only [Value.slice.injEq] at I
     obtain ⟨rfl,rfl,rfl⟩:=I
     exact ⟨Nat.le_refl _,Nat.zero_le _,fun _=>rfl,fun h=>by omega⟩
   · simp only [Value.slice.injEq] at I
     obtain ⟨rfl,_,rfl⟩:=I
     exact ⟨aa,aw,(fun h=>by cases h),fun _=>⟨g,rfl⟩⟩
 · simp only [Value.slice.injEq] at e
   obtain ⟨rfl,_,rfl⟩:=e
   exact ⟨Nat.le_refl _,Nat.zero_le _,fun _=>rfl,fun h=>by omega⟩
theorem rowIs.later {t sz n c:Nat} {A:Option Addr} {xs:List Value} (e:rowIs w t sz (.slice A n c) n xs) (ao:∀ k ∈ ag (.slice A n c),w'.heap[k]? =w.heap[k]?):rowIs w' t sz (.slice A n c) n xs:=by
 cases c with
 | zero=>
   have I:=e.cap.1
   have aa:=e.len
   have aJ:n= 0 :=by omega
   subst aJ
   exact .inr ⟨rfl,List.eq_nil_of_length_eq_zero (by rw [aa];simp),A,rfl⟩
 | succ c=>
   rcases e with e | ⟨rfl,_,cj,e⟩
   · left
     have:=(a7.row t sz (.slice A n (c+ 1)) (List.replicate n ()) xs).law w w' (fun k aj=>ao k (by cases A with | none=>simp [a7.row,Value.ownBlock] at aj | some a=>simpa [ag,a7.row,Value.ownBlock] using aj))
     simpa [a7.row] using this (by simpa [a7.row] using e)
   · simp at e
theorem ih.later (aD:∀ k,F k->F' k/\w'.heap[k]? =w.heap[k]?) (aq:ll T ρ ρ' bl bl') {B:aC T.El} {h:Value} (ao:∀ k ∈ bA B h,w'.heap[k]? =w.heap[k]?) (bO:ih T F w ρ bl B h):ih T F' w' ρ' bl' B h:=by
 cases B with
 | c ty cs=>
   obtain ⟨g,vs,rfl,aa,aw⟩:=bO
   exact ⟨g,vs,rfl,(ao g (by simp [bA,ag])).trans aa,a4.later aD aq cs aw⟩
 | r t g k l=>
   obtain ⟨A,c,xs,rfl,aa,aw⟩:=bO
   exact ⟨A,c,xs,rfl,aa.later ao,mR _ aD aw⟩
 | k t sz g cs=>
   obtain ⟨A,n,c,xs,rfl,aa,aw⟩:=bO
   exact ⟨A,n,c,xs,rfl,aa.later ao,a4.later aD aq cs aw⟩
 | z t g k l=>exact (b4 (T.ty t)).law aD bO
 | m kt vt d=>
   obtain ⟨r,rfl,aa⟩:=bO
   exact ⟨r,rfl,aa.law aD (ao r (by simp [bA,ag]))⟩
 | o TC=>
   obtain ⟨g,rfl,aa⟩:=bO
   exact ⟨g,rfl,(ao g (by simp [bA,ag])).trans aa⟩
 | no g=>trivial
end
structure Mem (T:bT) (W:World) (M0:List Nat) (X:Nat->Prop) (bl:List (aC T.El)) (ρ:List Value) (w:World):Prop where
 bV:bp M0 W w
 len:ρ.length=bl.length
 hf:∀ k,X k->k <W.heap.size/\k ∉ M0
 lt:∀ k,n6 bl ρ k->k <w.heap.size/\(k ∈ M0\/W.heap.size<=k)
 bx:∀ (i j:Nat) (B C:aC T.El) (h g:Value),bl[i]? =some B->ρ[i]? =some h->bl[j]? =some C->ρ[j]? =some g->i≠j-> ∀ k ∈ bA B h,k ∉ bA C g
 ok:∀ (i:Nat) (B:aC T.El) (h:Value),bl[i]? =some B->ρ[i]? =some h->ih T (bh X bl ρ w) w ρ bl B h
section
variable {T:bT} {W w w':World} {M0:List Nat} {X:Nat->Prop} {bl bl':List (aC T.El)} {ρ ρ':List Value}
abbrev Mem.F (_:Mem T W M0 X bl ρ w):Nat->Prop:=bh X bl ρ w
structure To (X:Nat->Prop) (bl bl':List (aC T.El)) (ρ ρ':List Value) (w w':World):Prop where
 F:∀ k,bh X bl ρ w k->bh X bl' ρ' w' k/\w'.heap[k]? =w.heap[k]?
 L:ll T ρ ρ' bl bl'
 sz:w.heap.size<=w'.heap.size
 oo:∀ (i:Nat) (B':aC T.El) (h':Value),bl'[i]? =some B'->ρ'[i]? =some h'-> ∀ k ∈ bA B' h',k <w.heap.size-> ∃ B h,bl[i]? =some B/\ρ[i]? =some h/\k ∈ bA B h
theorem To.v (h:To X bl bl' ρ ρ' w w') {y:aF T.El} {v:Value} (ah:ar T (bh X bl ρ w) w ρ bl y v):ar T (bh X bl' ρ' w') w' ρ' bl' y v:=ah.later h.F h.L
theorem To.vs (h:To X bl bl' ρ ρ' w w') {y:List (aF T.El)} {v:List Value} (ah:a4 T (bh X bl ρ w) w ρ bl y v):a4 T (bh X bl' ρ' w') w' ρ' bl' y v:=a4.later h.F h.L y ah
theorem To.trans {sN:List (aC T.El)} {Ef:List Value} {w'':World} (h:To X bl bl' ρ ρ' w w') (k:To X bl' sN ρ' Ef w' w''):To X bl sN ρ Ef w w'':=
 ⟨fun q aT=>⟨(k.F q (h.F q aT).1).1,((k.F q (h.F q aT).1).2).trans (h.F q aT).2⟩,h.L.trans k.L,Nat.le_trans h.sz k.sz,fun i B' h' hi bC q aT bE=>by
  obtain ⟨yq,I,ak,al,aV⟩:=k.oo i B' h' hi bC q aT (Nat.lt_of_lt_of_le bE h.sz)
  exact h.oo i yq I ak al q aV bE⟩
theorem To.refl:To X bl bl ρ ρ w w:=⟨fun _ h=>⟨h,rfl⟩,.refl,Nat.le_refl _,fun _ B h hi bC _ aj _=>⟨B,h,hi,bC,aj⟩⟩
theorem Mem.Ac (hm:Mem T W M0 X bl ρ w) {i:Nat} {B:aC T.El} (hi:bl[i]? =some B):∃ h,ρ[i]? =some h:=by
 have:=(List.getElem?_eq_some_iff.1 hi).1
 exact ⟨ρ[i]'(by rw [hm.len];exact this),List.getElem?_eq_getElem _⟩
theorem Mem.qq (ah:bp [] w w'):To X bl bl ρ ρ w w':=⟨fun k aj=>⟨⟨aj.1,aj.2.1,Nat.lt_of_lt_of_le aj.2.2 ah.size⟩,ah.block k aj.2.2 (by simp)⟩,.refl,ah.size,fun _ B h hi bC _ aj _=>⟨B,h,hi,bC,aj⟩⟩
theorem Mem.eT (hm:Mem T W M0 X bl ρ w) (ah:bp [] w w'):Mem T W M0 X bl ρ w':=
 ⟨hm.bV.trans ah (by simp),hm.len,hm.hf,fun k aj=>⟨Nat.lt_of_lt_of_le (hm.lt k aj).1 ah.size,(hm.lt k aj).2⟩,hm.bx,fun i B h hi bC=>(hm.ok i B h hi bC).later (Mem.qq ah).F .refl fun k aj=>ah.block k (hm.lt k ⟨i,B,h,hi,bC,aj⟩).1 (by simp)⟩
theorem Mem.Dx (hm:Mem T W M0 X bl ρ w) {i:Nat} {B B':aC T.El} {h h':Value} (hi:bl[i]? =some B) (bC:ρ[i]? =some h) (ah:bp (bA B h) w w')
 (af:∀ k ∈ bA B' h',k ∈ bA B h\/(w.heap.size<=k/\k <w'.heap.size))
 (aq:(¬ kZ h->h'=h)/\b5 (some B)<=b5 (some B')/\(b5 (some B')=b5 (some B)->h'=h/\iz T (some B')=iz T (some B)/\gB (some B)<=gB (some B')/\(gB (some B')=gB (some B)->iy (some B')=iy (some B)))) :
 To X bl (bl.set i B') ρ (ρ.set i h') w w':=by
 have l1:=(List.getElem?_eq_some_iff.1 hi).1
 have cB:=(List.getElem?_eq_some_iff.1 bC).1
 refine ⟨fun k aj=>⟨⟨aj.1,?_,Nat.lt_of_lt_of_le aj.2.2 ah.size⟩,ah.block k aj.2.2 fun ad=>aj.2.1 ⟨i,B,h,hi,bC,ad⟩⟩,⟨fun j u aI=>?_⟩,ah.size,fun j C g aI ax k aj bE=>?_⟩
 · rintro ⟨j,C,g,aI,ax,cN⟩
   by_cases e:j=i
   · subst e
     rw [List.getElem?_set_self l1] at aI
     rw [List.getElem?_set_self cB] at ax
     cases aI;cases ax
     rcases af k cN with e | e
     · exact aj.2.1 ⟨j,B,h,hi,bC,e⟩
     · have:=aj.2.2;omega
   · rw [List.getElem?_set_ne (Ne.symm e)] at aI ax
     exact aj.2.1 ⟨j,C,g,aI,ax,cN⟩
 · by_cases e:j=i
   · subst e
     rw [bC] at aI
     cases aI
     refine ⟨h',List.getElem?_set_self cB,?_⟩
     rw [List.getElem?_set_self l1,hi]
     exact aq
   · refine ⟨u,by rw [List.getElem?_set_ne (Ne.symm e)];exact aI,fun _=>rfl,?_⟩
     rw [List.getElem?_set_ne (Ne.symm e)]
     exact ⟨Nat.le_refl _,fun _=>⟨rfl,rfl,Nat.le_refl _,fun _=>rfl⟩⟩
 · by_cases e:j=i
   · subst e
     rw [List.getElem?_set_self l1] at aI
     rw [List.getElem?_set_self cB] at ax
     cases aI;cases ax
     rcases af k aj with e | e
     · exact ⟨B,h,hi,bC,e⟩
     · omega
   · rw [List.getElem?_set_ne (Ne.symm e)] at aI ax
     exact ⟨C,g,aI,ax,aj⟩
theorem Mem.uH (hm:Mem T W M0 X bl ρ w) {i:Nat} {B B':aC T.El} {h h':Value} (hi:bl[i]? =some B) (bC:ρ[i]? =some h) (ah:bp (bA B h) w w')
 (af:∀ k ∈ bA B' h',k ∈ bA B h\/(w.heap.size<=k/\k <w'.heap.size)) (aO:To X bl (bl.set i B') ρ (ρ.set i h') w w')
 (bO:ih T (bh X (bl.set i B') (ρ.set i h') w') w' (ρ.set i h') (bl.set i B') B' h'):Mem T W M0 X (bl.set i B') (ρ.set i h') w':=by
 have l1:=(List.getElem?_eq_some_iff.1 hi).1
 have cB:=(List.getElem?_eq_some_iff.1 bC).1
 have key:∀ {j:Nat} {C:aC T.El} {g:Value},(bl.set i B')[j]? =some C->(ρ.set i h')[j]? =some g->(j=i/\C=B'/\g=h')\/(j≠i/\bl[j]? =some C/\ρ[j]? =some g):=fun {j C g} aI ax=>by
  by_cases e:j=i
  · subst e
    rw [List.getElem?_set_self l1] at aI
    rw [List.getElem?_set_self cB] at ax
    cases aI;cases ax
    exact .inl ⟨rfl,rfl,rfl⟩
  · rw [List.getElem?_set_ne (Ne.symm e)] at aI ax
    exact .inr ⟨e,aI,ax⟩
 refine ⟨hm.bV.trans ah fun k aj=>(hm.lt k ⟨i,B,h,hi,bC,aj⟩).2,by simp [hm.len],hm.hf,?_,?_,?_⟩
 · rintro k ⟨j,C,g,aI,ax,aj⟩
   rcases key aI ax with ⟨rfl,rfl,rfl⟩ | ⟨_,I,aa⟩
   · rcases af k aj with e | e
     · have:=hm.lt k ⟨j,B,h,hi,bC,e⟩
       exact ⟨Nat.lt_of_lt_of_le this.1 ah.size,this.2⟩
     · exact ⟨e.2,.inr (Nat.le_trans hm.bV.size e.1)⟩
   · have:=hm.lt k ⟨j,C,g,I,aa,aj⟩
     exact ⟨Nat.lt_of_lt_of_le this.1 ah.size,this.2⟩
 · intro a b C D g u aK ax fL hu b3 k aj cN
   rcases key aK ax with ⟨rfl,rfl,rfl⟩ | ⟨ak,I,aa⟩
   · rcases key fL hu with ⟨rfl,_⟩ | ⟨al,bg,bf⟩
     · exact b3 rfl
     · rcases af k aj with e | e
       · exact hm.bx _ _ _ _ _ _ hi bC bg bf b3 k e cN
       · have:=(hm.lt k ⟨b,D,u,bg,bf,cN⟩).1;omega
   · rcases key fL hu with ⟨rfl,rfl,rfl⟩ | ⟨al,bg,bf⟩
     · rcases af k cN with e | e
       · exact hm.bx _ _ _ _ _ _ I aa hi bC b3 k aj e
       · have:=(hm.lt k ⟨a,C,g,I,aa,aj⟩).1;omega
     · exact hm.bx _ _ _ _ _ _ I aa bg bf b3 k aj cN
 · intro j C g aI ax
   rcases key aI ax with ⟨rfl,rfl,rfl⟩ | ⟨ak,I,aa⟩
   · exact bO
   · exact (hm.ok j C g I aa).later aO.F aO.L fun k aj=>ah.block k (hm.lt k ⟨j,C,g,I,aa,aj⟩).1 fun ad=>hm.bx _ _ _ _ _ _ I aa hi bC ak k aj ad
theorem Mem.xz (hm:Mem T W M0 X bl ρ w) {B:aC T.El} {h:Value} (ah:bp [] w w') (af:∀ k ∈ bA B h,w.heap.size<=k/\k <w'.heap.size):To X bl (bl++[B]) ρ (ρ++[h]) w w':=by
 refine ⟨fun k aj=>⟨⟨aj.1,?_,Nat.lt_of_lt_of_le aj.2.2 ah.size⟩,ah.block k aj.2.2 (by simp)⟩,⟨fun j u aI=>?_⟩,ah.size,fun j C g aI ax k aj bE=>?_⟩
 · rintro ⟨j,C,g,aI,ax,cN⟩
   rcases Nat.lt_or_ge j bl.length with e | e
   · rw [List.getElem?_append_left e] at aI
     rw [List.getElem?_append_left (by rw [hm.len];exact e)] at ax
     exact aj.2.1 ⟨j,C,g,aI,ax,cN⟩
   · rw [List.getElem?_append_right e] at aI
     rw [List.getElem?_append_right (by rw [hm.len];exact e),hm.len] at ax
     cases aM:j - bl.length with
     | zero=>
       rw [aM] at aI ax
       simp only [List.getElem?_cons_zero,Option.some.injEq] at aI ax
       subst aI;subst ax
       have:=(af k cN).1
       have:=aj.2.2
       omega
     | succ q=>rw [aM] at aI;simp at aI
 · have e:=(List.getElem?_eq_some_iff.1 aI).1
   have e':j <bl.length:=by rw [<-hm.len];exact e
   refine ⟨u,by rw [List.getElem?_append_left e];exact aI,fun _=>rfl,?_⟩
   rw [List.getElem?_append_left e']
   exact ⟨Nat.le_refl _,fun _=>⟨rfl,rfl,Nat.le_refl _,fun _=>rfl⟩⟩
 · rcases Nat.lt_or_ge j bl.length with e | e
   · rw [List.getElem?_append_left e] at aI
     rw [List.getElem?_append_left (by rw [hm.len];exact e)] at ax
     exact ⟨C,g,aI,ax,aj⟩
   · rw [List.getElem?_append_right e] at aI
     rw [List.getElem?_append_right (by rw [hm.len];exact e),hm.len] at ax
     cases aM:j - bl.length with
     | zero=>
       rw [aM] at aI ax
       simp only [List.getElem?_cons_zero,Option.some.injEq] at aI ax
       subst aI;subst ax
       have:=(af k aj).1
       omega
     | succ q=>rw [aM] at aI;simp at aI
theorem Mem.push (hm:Mem T W M0 X bl ρ w) {B:aC T.El} {h:Value} (ah:bp [] w w') (af:∀ k ∈ bA B h,w.heap.size<=k/\k <w'.heap.size)
 (bO:ih T (bh X (bl++[B]) (ρ++[h]) w') w' (ρ++[h]) (bl++[B]) B h):Mem T W M0 X (bl++[B]) (ρ++[h]) w':=by
 have aO:=hm.xz ah af (B:=B) (h:=h)
 have key:∀ {j:Nat} {C:aC T.El} {g:Value},(bl++[B])[j]? =some C->(ρ++[h])[j]? =some g->(j=bl.length/\C=B/\g=h)\/(j <bl.length/\bl[j]? =some C/\ρ[j]? =some g):=fun {j C g} aI ax=>by
  rcases Nat.lt_or_ge j bl.length with e | e
  · rw [List.getElem?_append_left e] at aI
    rw [List.getElem?_append_left (by rw [hm.len];exact e)] at ax
    exact .inr ⟨e,aI,ax⟩
  · rw [List.getElem?_append_right e] at aI
    rw [List.getElem?_append_right (by rw [hm.len];exact e),hm.len] at ax
    cases aM:j - bl.length with
    | zero=>
      rw [aM] at aI ax
      simp only [List.getElem?_cons_zero,Option.some.injEq] at aI ax
      exact .inl ⟨by omega,aI.symm,ax.symm⟩
    | succ q=>rw [aM] at aI;simp at aI
 refine ⟨hm.bV.trans ah (by simp),by simp [hm.len],hm.hf,?_,?_,?_⟩
 · rintro k ⟨j,C,g,aI,ax,aj⟩
   rcases key aI ax with ⟨rfl,rfl,rfl⟩ | ⟨_,I,aa⟩
   · exact ⟨(af k aj).2,.inr (Nat.le_trans hm.bV.size (af k aj).1)⟩
   · have:=hm.lt k ⟨j,C,g,I,aa,aj⟩
     exact ⟨Nat.lt_of_lt_of_le this.1 ah.size,this.2⟩
 · intro a b C D g u aK ax fL hu b3 k aj cN
   rcases key aK ax with ⟨rfl,rfl,rfl⟩ | ⟨ak,I,aa⟩
   · rcases key fL hu with ⟨rfl,_⟩ | ⟨al,bg,bf⟩
     · exact b3 rfl
     · have:=(hm.lt k ⟨b,D,u,bg,bf,cN⟩).1
       have:=(af k aj).1
       omega
   · rcases key fL hu with ⟨rfl,rfl,rfl⟩ | ⟨al,bg,bf⟩
     · have:=(hm.lt k ⟨a,C,g,I,aa,aj⟩).1
       have:=(af k cN).1
       omega
     · exact hm.bx _ _ _ _ _ _ I aa bg bf b3 k aj cN
 · intro j C g aI ax
   rcases key aI ax with ⟨rfl,rfl,rfl⟩ | ⟨ak,I,aa⟩
   · exact bO
   · exact (hm.ok j C g I aa).later aO.F aO.L fun k aj=>ah.block k (hm.lt k ⟨j,C,g,I,aa,aj⟩).1 (by simp)
end
def cJ {α:Type}:List (Nat × α)->Nat->Option α
 | [],_=>none
 | p::r,t=>match Nat.beq p.1 t with
   | true=>some p.2
   | false=>cJ r t
structure pc (T:bT) (F:Nat->Prop) (w:World) (ρ:List Value) (bl:List (aC T.El)) (n:cE) (fr:List (Nat × aF T.El)) (a:Act):Prop where
 size:a.tmps.size=n.n
 defers:a.defers=n.ds
 get:∀ t y,cJ fr t=some y->ar T F w ρ bl y (a.tmps.getD t undef)
section
variable {T:bT} {F F':Nat->Prop} {w w':World} {ρ ρ':List Value} {bl bl':List (aC T.El)} {n:cE} {fr:List (Nat × aF T.El)} {a:Act}
theorem pc.later (aD:∀ k,F k->F' k/\w'.heap[k]? =w.heap[k]?) (aq:ll T ρ ρ' bl bl') (h:pc T F w ρ bl n fr a):pc T F' w' ρ' bl' n fr a:=⟨h.size,h.defers,fun t y hy=>(h.get t y hy).later aD aq⟩
theorem v0 {a:Act} {d t:Nat} {v:Value} (aM:d <a.tmps.size):(a.put (some d) v).tmps.getD t undef=if d=t then v else a.tmps.getD t undef:=by
 simp only [Act.put,Array.getD_eq_getD_getElem?,Array.getElem?_setIfInBounds]
 by_cases e:d=t
 · subst e;simp [aM]
 · simp [e]
theorem pc.put {d:Nat} {y:aF T.El} {v:Value} (h:pc T F w ρ bl n fr a) (aM:Nat.blt d n.n=true) (ah:ar T F w ρ bl y v):pc T F w ρ bl n ((d,y)::fr) (a.put (some d) v):=by
 have bE:d <n.n:=Nat.le_of_ble_eq_true aM
 refine ⟨by simpa [Act.put] using h.size,h.defers,fun t z ai=>?_⟩
 rw [v0 (by rw [h.size];exact bE)]
 simp only [cJ] at ai
 cases ag:Nat.beq d t with
 | true=>
   rw [ag] at ai
   simp only [Option.some.injEq] at ai
   rw [if_pos (Nat.eq_of_beq_eq_true ag),<-ai];exact ah
 | false=>
   rw [ag] at ai
   rw [if_neg (fun e=>by subst e;simp at ag)]
   exact h.get t z ai
def mT {α:Type}:List (Nat × α)->Nat->List (Nat × α)
 | [],_=>[]
 | p::r,t=>match Nat.beq p.1 t with
   | true=>mT r t
   | false=>p::mT r t
theorem K3 {α:Type} {d t:Nat} {y:α}:∀ {fr:List (Nat × α)},cJ (mT fr d) t=some y->t≠d/\cJ fr t=some y
 | [],h=>by simp [mT,cJ] at h
 | p::r,h=>by
   simp only [mT] at h
   cases ag:Nat.beq p.1 d with
   | true=>
     rw [ag] at h
     obtain ⟨I,aa⟩:=K3 h
     refine ⟨I,?_⟩
     simp only [cJ]
     cases hc:Nat.beq p.1 t with
     | true=>exact absurd ((Nat.eq_of_beq_eq_true hc).symm.trans (Nat.eq_of_beq_eq_true ag)) I
     | false=>exact aa
   | false=>
     rw [ag] at h
     simp only [cJ] at h ⊢
     cases hc:Nat.beq p.1 t with
     | true=>
       rw [hc] at h
       refine ⟨fun e=>?_,h⟩
       rw [Nat.eq_of_beq_eq_true hc,e] at ag
       simp at ag
     | false=>rw [hc] at h;exact K3 h
theorem pc.Mf {d:Nat} {v:Value} (h:pc T F w ρ bl n fr a) (aM:Nat.blt d n.n=true):pc T F w ρ bl n (mT fr d) (a.put (some d) v):=by
 have bE:d <n.n:=Nat.le_of_ble_eq_true aM
 refine ⟨by simpa [Act.put] using h.size,h.defers,fun t z ai=>?_⟩
 obtain ⟨I,aa⟩:=K3 ai
 rw [v0 (by rw [h.size];exact bE),if_neg (Ne.symm I)]
 exact h.get t z aa
end
end bn
namespace J
def dr {α β ct:Type} (o:Option (α ⊕ β)) (k:α->Option ct) (l:β->Option ct):Option ct:=match o with
 | none=>none
 | some (.inl a)=>k a
 | some (.inr b)=>l b
end J
namespace bn
open Go Go.RowKit au J
inductive D (α:Type):Type 1
 | ok (a:α)
 | no
 | op {β:Type} (o:Option β) (k:β->D α)
 | ob (c:Bool) (x y:D α)
 | r7 {β ct:Type} (o:Option (β ⊕ ct)) (k:β->D α) (l:ct->D α)
def D.bind {α β:Type}:D α->(α->D β)->D β
 | .ok a,f=>f a
 | .no,_=>.no
 | .op o k,f=>.op o fun b=>(k b).bind f
 | .ob c x y,f=>.ob c (x.bind f) (y.bind f)
 | .r7 o k l,f=>.r7 o (fun b=>(k b).bind f) (fun c=>(l c).bind f)
def D.run {α ρ:Type}:D α->(α->Option ρ)->Option ρ
 | .ok a,K=>K a
 | .no,_=>none
 | .op o k,K=>o.bind fun b=>(k b).run K
 | .ob c x y,K=>cond c (x.run K) (y.run K)
 | .r7 o k l,K=>dr o (fun b=>(k b).run K) (fun c=>(l c).run K)
def D.out {α:Type}:D α->α->Prop
 | .ok b,a=>b=a
 | .no,_=>False
 | .op o k,a=>∃ b,o=some b/\(k b).out a
 | .ob c x y,a=>(c=true/\x.out a)\/(c=false/\y.out a)
 | .r7 o k l,a=>(∃ b,o=some (.inl b)/\(k b).out a)\/(∃ c,o=some (.inr c)/\(l c).out a)
theorem D.r2 {α ρ:Type} {r:ρ}:∀ {d:D α} {K:α->Option ρ},d.run K=some r-> ∃ a,d.out a/\K a=some r
 | .ok a,K,h=>⟨a,rfl,h⟩
 | .no,K,h=>by cases h
 | .op o k,K,h=>by
   obtain ⟨b,I,aa⟩:=fx h
   obtain ⟨a,aw,bi⟩:=D.r2 aa
   exact ⟨a,⟨b,I,aw⟩,bi⟩
 | .ob c x y,K,h=>by
   cases c with
   | true=>obtain ⟨a,aw,bi⟩:=D.r2 (d:=x) h;exact ⟨a,.inl ⟨rfl,aw⟩,bi⟩
   | false=>obtain ⟨a,aw,bi⟩:=D.r2 (d:=y) h;exact ⟨a,.inr ⟨rfl,aw⟩,bi⟩
 | .r7 o k l,K,h=>by
   cases o with
   | none=>cases h
   | some s=>
     cases s with
     | inl b=>obtain ⟨a,aw,bi⟩:=D.r2 (d:=k b) h;exact ⟨a,.inl ⟨b,rfl,aw⟩,bi⟩
     | inr c=>obtain ⟨a,aw,bi⟩:=D.r2 (d:=l c) h;exact ⟨a,.inr ⟨c,rfl,aw⟩,bi⟩
theorem D.ja {α β:Type}:∀ {d:D α} {f:α->D β} {b:β},(d.bind f).out b-> ∃ a,d.out a/\(f a).out b
 | .ok a,f,b,h=>⟨a,rfl,h⟩
 | .no,f,b,h=>h.elim
 | .op o k,f,b,h=>by
   obtain ⟨x,I,aa⟩:=h
   obtain ⟨a,aw,bi⟩:=D.ja aa
   exact ⟨a,⟨x,I,aw⟩,bi⟩
 | .ob c x y,f,b,h=>by
   rcases h with ⟨I,aa⟩ | ⟨I,aa⟩
   · obtain ⟨a,aw,bi⟩:=D.ja aa;exact ⟨a,.inl ⟨I,aw⟩,bi⟩
   · obtain ⟨a,aw,bi⟩:=D.ja aa;exact ⟨a,.inr ⟨I,aw⟩,bi⟩
 | .r7 o k l,f,b,h=>by
   rcases h with ⟨x,I,aa⟩ | ⟨x,I,aa⟩
   · obtain ⟨a,aw,bi⟩:=D.ja aa;exact ⟨a,.inl ⟨x,I,aw⟩,bi⟩
   · obtain ⟨a,aw,bi⟩:=D.ja aa;exact ⟨a,.inr ⟨x,I,aw⟩,bi⟩
def D.of {α:Type}:Option α->D α
 | some a=>.ok a
 | none=>.no
theorem D.nL {α:Type} {o:Option α} {a:α} (h:(D.of o).out a):o=some a:=by
 cases o with
 | none=>exact h.elim
 | some b=>exact congrArg some h
structure Env where
 P:Program
 T:bT
 cZ:List (Nat × aF T.El)
 fB:Bool
 ca:List Nat
 kL:Nat
 I_:List UInt8->List (T.El kL)
def lay (P:Program) (t:TypeId):Option (Bool × Nat):=match P.underlying t,P.info? t with
 | some (.struct _),some i=>some (true,i.size)
 | some (.array _ _),some i=>some (true,i.size)
 | some _,some i=>some (false,i.size)
 | _,_=>none
theorem run_sizeOf {P:Program} {t:TypeId} {i:TypeInfo} (h:P.info? t=some i) (w:World):(Go.sizeOf t).run P w= .ok i.size w:=by
 simp [Go.sizeOf,typeInfo,go_sem,h]
theorem Gc {P:Program} {t:TypeId} {b:Bool} {n:Nat} (h:lay P t=some (b,n)):(∀ w,(isAgg t).run P w= .ok b w)/\ ∀ w,(Go.sizeOf t).run P w= .ok n w:=by
 unfold lay at h
 split at h
 · rename_i I aa
   simp only [Option.some.injEq,Prod.mk.injEq] at h
   obtain ⟨rfl,rfl⟩:=h
   exact ⟨fun w=>by simp [isAgg,run_underlying I],run_sizeOf aa⟩
 · rename_i I aa
   simp only [Option.some.injEq,Prod.mk.injEq] at h
   obtain ⟨rfl,rfl⟩:=h
   exact ⟨fun w=>by simp [isAgg,run_underlying I],run_sizeOf aa⟩
 · rename_i d i abZ atD I aa
   simp only [Option.some.injEq,Prod.mk.injEq] at h
   obtain ⟨rfl,rfl⟩:=h
   refine ⟨fun w=>?_,run_sizeOf aa⟩
   simp only [isAgg,Sem.run_bind,run_underlying I,Result.andThen_ok]
   cases d <;> first | rfl | (exact absurd I (by simpa using abZ _)) | (exact absurd I (by simpa using atD _ _))
 · cases h
def jT:Option TypeDesc->Option mf
 | some (.int k)=>some (.i k)
 | some .bool=>some .b
 | some .string=>some .s
 | some (.slice _)=>some .ck
 | _=>none
theorem tI {P:Program} {t:TypeId} {k:mf} (h:jT (P.underlying t)=some k):k.ok P t:=by
 unfold jT at h
 split at h <;> simp only [Option.some.injEq,reduceCtorEq] at h <;> subst h
 · rename_i h;exact h
 · rename_i h;exact h
 · rename_i h;exact h
 · rename_i e h;exact ⟨e,h⟩
def JT (P:Program) (s j:Nat):Option (Nat × Nat × Nat):=match P.underlying s with
 | some (.struct ca)=>match nth ca.toList j with
   | some f=>match P.info? f.type with
     | some i=>match Nat.beq i.size 0 with
       | true=>none
       | false=>some (f.offset,f.type,i.size)
     | none=>none
   | none=>none
 | _=>none
theorem aaP {P:Program} {s j off t n:Nat} (h:JT P s j=some (off,t,n)):∃ ca f,P.underlying s=some (.struct ca)/\ca[j]? =some f/\f.offset=off/\f.type=t/\(∀ w,(Go.sizeOf f.type).run P w= .ok n w)/\Nat.beq n 0 =false:=by
 unfold JT at h
 split at h
 · rename_i ca I
   split at h
   · rename_i f aa
     split at h
     · rename_i i aw
       split at h
       · cases h
       · rename_i bi
         simp only [Option.some.injEq,Prod.mk.injEq] at h
         obtain ⟨rfl,rfl,rfl⟩:=h
         rw [cW,Array.getElem?_toList] at aa
         exact ⟨ca,f,I,aa,rfl,rfl,run_sizeOf aw,bi⟩
     · cases h
   · cases h
 · cases h
section
variable {El:Nat->Type}
def lv (cs:List (aF El)) (o:Nat):Bool × Nat->Option (aF El)
 | (false,_)=>nth cs o
 | (true,n)=>match Nat.ble (o+n) cs.length with
   | true=>some (.a ((cs.drop o).take n))
   | false=>none
end
section
variable {T:bT} {F:Nat->Prop} {w:World} {ρ:List Value} {bl:List (aC T.El)} {P:Program}
theorem B0 {cs:List (aF T.El)} {o a q t:Nat} {gH:Bool × Nat} {y:aF T.El} {vs:List Value} (aq:lay P t=some gH) (h:lv cs o gH=some y) (aE:a4 T F w ρ bl cs vs) (hc:e5 w ⟨a,q,none⟩ vs) :
 ∃ v us,ar T F w ρ bl y v/\e5 w ⟨a,q+o,none⟩ us/\ ∀ (op:Oper) (ac:Act) (x:Operand) (w':World),op.op= .load t x->ac.eval x= .pointer (some ⟨a,q+o,none⟩)->e5 w' ⟨a,q+o,none⟩ us->bb P op ac w' v w':=by
 obtain ⟨b,n⟩:=gH
 have zI:=Gc aq
 cases b with
 | false=>
   simp only [lv] at h
   rw [cW] at h
   obtain ⟨v,I,aa⟩:=aE.at_ h
   refine ⟨v,[v],aa,fun j u aI=>?_,fun op ac x w' av ad kT=>XA zI.1 av ad (by simpa using kT 0 v rfl)⟩
   cases j with
   | zero=>simp only [List.getElem?_cons_zero,Option.some.injEq] at aI;subst aI;simpa using hc o v I
   | succ j=>simp at aI
 | true=>
   simp only [lv] at h
   split at h
   · rename_i ag
     simp only [Option.some.injEq] at h
     subst h
     have hle:=Nat.le_of_ble_eq_true ag
     have hlen:=aE.len
     refine ⟨.agg ⟨(vs.drop o).take n⟩,(vs.drop o).take n,?_,fun j u aI=>?_,fun op ac x w' av ad kT=>ajE zI.1 zI.2 (by simp;omega) av ad kT⟩
     · simp only [ar]
       exact ⟨_,rfl,a4.take n (a4.drop o aE)⟩
     · rw [List.getElem?_take] at aI
       split at aI
       · rw [List.getElem?_drop] at aI
         have:=hc (o+j) u aI
         simpa [Nat.add_assoc] using this
       · cases aI
   · cases h
end
end bn
namespace bn
open Go Go.RowKit au J
structure vw (T:bT):Prop where
 cs:∀ t d F w xs,(T.ty t).rd F w xs d->a4 T F w [] [] ((T.e t).cs d) xs
 gT:∀ t a0 d,(T.e t).gT a0=some d-> ∀ F w ρ bl xs,a4 T F w ρ bl a0 xs->(T.ty t).rd F w xs d
 key:∀ t K,(T.e t).key=some K-> ∀ F w xs k,(T.ty t).rd F w xs k->w_ (T.e t).agg xs= @kJ.enc _ K.dec K.pU k
 one:∀ t,(T.e t).agg=false-> ∀ d,((T.e t).cs d).length= 1
def bT.val (T:bT) (t:Nat) (d:T.El t):aF T.El:=match (T.e t).agg with
 | true=>.a ((T.e t).cs d)
 | false=>((T.e t).cs d).headD (.p undef)
structure c8 (E:Env):Prop where
 tb:vw E.T
 call:∀ f ∈ E.ca,∀ args w,(callFunc f args).run E.P w= .ok (.enter f args) w
 aw3:E.P.follows .mixedOrders=true
 YA:∀ l,(E.I_ l).length=l.length
 an7:∀ F w l xs,dS MC F w xs l->dS (E.T.ty E.kL) F w xs (E.I_ l)
 eq:∀ t f,(E.T.e t).eq=some f-> ∀ F w xs ys d e,(E.T.ty t).rd F w xs d->(E.T.ty t).rd F w ys e-> ∀ (o:Oper) (a:Act) (x y:Operand) (t':TypeId) (b:Bool),o.op= .binOp (cond b .eql .neq) t x y t'->a.eval x= .agg ⟨xs⟩->a.eval y= .agg ⟨ys⟩-> ∀ w',bb E.P o a w' (.bool (cond b (f d e) (!f d e))) w'
section
variable {T:bT} {F:Nat->Prop} {w:World} {ρ:List Value} {bl:List (aC T.El)}
theorem awu {w:World} {F:Nat->Prop} {l:List (aF T.El)} {vs:List Value} (h:a4 T F w [] [] l vs):a4 T F w ρ bl l vs:=a4.later (fun _ h=>⟨h,rfl⟩) ⟨fun i h hi=>by simp at hi⟩ l h
theorem vw.cells (fD:vw T) {t:Nat} {d:T.El t} {xs:List Value} (h:(T.ty t).rd F w xs d):a4 T F w ρ bl ((T.e t).cs d) xs:=awu (fD.cs t d F w xs h)
theorem vw.val (fD:vw T) {t:Nat} {d:T.El t} {xs:List Value} (h:(T.ty t).rd F w xs d):ar T F w ρ bl (T.val t d) (w_ (T.e t).agg xs):=by
 have hc:=fD.cells (ρ:=ρ) (bl:=bl) h
 unfold bT.val
 cases aK:(T.e t).agg with
 | true=>simp only [ar,w_];exact ⟨xs,rfl,hc⟩
 | false=>
   have I:=fD.one t aK d
   cases hcs:(T.e t).cs d with
   | nil=>rw [hcs] at I;simp at I
   | cons y r=>
     rw [hcs] at hc
     simp only [a4] at hc
     obtain ⟨u,us,rfl,hu,_⟩:=hc
     exact hu
def TY {El:Nat->Type}:aF El->Nat->Option (aF El)
 | .b i o,n=>some (.b i (o+n))
 | .x t d o,n=>some (.x t d (o+n))
 | .e i g k t j d o,n=>some (.e i g k t j d (o+n))
 | .w i g o,n=>some (.w i g (o+n))
 | _,_=>none
def LO {El:Nat->Type} (gs:Nat->Nat):aF El->Bool
 | .b _ _=>true
 | .x _ _ _=>true
 | .e i g _ _ _ _ _=>Nat.beq g (gs i)
 | .w i g _=>Nat.beq g (gs i)
 | _=>false
def q8 {El:Nat->Type} (bl:List (aC El)) (i:Nat):Nat:=b5 (nth bl i)
theorem zt {El:Nat->Type} (bl:List (aC El)) (i:Nat):q8 bl i=b5 bl[i]? :=by rw [q8,cW]
theorem ayw {y fA:aF T.El} {n:Nat} {v:Value} (hi:LO (q8 bl) y=true) (h:TY y n=some fA) (ah:ar T F w ρ bl y v):∃ g o,v= .pointer (some ⟨g,o,none⟩)/\ar T F w ρ bl fA (.pointer (some ⟨g,o+n,none⟩)):=by
 cases y <;> simp only [TY,Option.some.injEq,reduceCtorEq] at h <;> subst h
 · simp only [ar] at ah
   obtain ⟨g,I,aa⟩:=ah
   refine ⟨g,_,aa,?_⟩
   simp only [ar]
   exact ⟨g,I,rfl⟩
 · simp only [ar] at ah
   obtain ⟨a,q,cs,I,aa,aw,bi⟩:=ah
   refine ⟨a,_,I,?_⟩
   simp only [ar]
   exact ⟨a,q,cs,by rw [Nat.add_assoc],aa,aw,bi⟩
 · simp only [ar] at ah
   obtain ⟨_,u,I,aa,aw⟩:=ah
   simp only [LO] at hi
   have hi:=Nat.eq_of_beq_eq_true hi
   rw [zt] at hi
   obtain ⟨⟨A,fE,c,bg,bf,cc,da⟩,ny,wv⟩:=aw hi
   refine ⟨_,_,da,?_⟩
   simp only [ar]
   exact ⟨trivial,u,I,aa,fun _=>⟨⟨A,fE,c,bg,bf,cc,by rw [Nat.add_assoc]⟩,ny,wv⟩⟩
 · simp only [ar] at ah
   obtain ⟨_,u,I,aa,aw⟩:=ah
   simp only [LO] at hi
   have hi:=Nat.eq_of_beq_eq_true hi
   rw [zt] at hi
   obtain ⟨A,fE,c,bg,bf,da⟩:=aw hi
   refine ⟨_,_,da,?_⟩
   simp only [ar]
   exact ⟨trivial,u,I,aa,fun _=>⟨A,fE,c,bg,bf,rfl⟩⟩
def nm {El:Nat->Type} (bl:List (aC El)):aF El->aF El
 | .r i g=>match nth bl i with
   | some (.z t g' _ l)=>match Nat.beq g g' with
     | true=>.s t l
     | false=>.r i g
   | _=>.r i g
 | y=>y
end
section
variable {T:bT} {W w:World} {M0:List Nat} {X:Nat->Prop} {bl:List (aC T.El)} {ρ:List Value}
theorem Lw (hm:Mem T W M0 X bl ρ w) {y:aF T.El} {v:Value} (ah:ar T (bh X bl ρ w) w ρ bl y v):ar T (bh X bl ρ w) w ρ bl (nm bl y) v:=by
 cases y with
 | r i g=>
   simp only [nm]
   split
   · rename_i t g' k l hi
     rw [cW] at hi
     split
     · rename_i ag
       have ag:=Nat.eq_of_beq_eq_true ag
       simp only [ar] at ah ⊢
       obtain ⟨_,h,I,aa,aw⟩:=ah
       rw [hi] at aw
       have:=aw ag
       subst this
       exact hm.ok i _ _ hi I
     · exact ah
   · exact ah
 | _=>exact ah
def Ca (E:Env) (bl:List (aC E.T.El)) (t:Nat):aF E.T.El->D (aF E.T.El)
 | .b i o=>match nth bl i,lay E.P t with
   | some (.c _ cs),some gH=>.of (lv cs o gH)
   | _,_=>.no
 | .x t' d o=>match lay E.P t with
   | some gH=>.of (lv ((E.T.e t').cs d) o gH)
   | none=>.no
 | .e i g k t' j d o=>match nth bl i,lay E.P t with
   | some (.r t2 bG bf l),some gH=>match Nat.beq g bG,Nat.beq k bf with
     | true,true=>.of (lv ((E.T.e t').cs d) o gH)
     | true,false=>.op (idx l j) fun d'=>.of (lv ((E.T.e t2).cs d') o gH)
     | _,_=>.no
   | _,_=>.no
 | .w i g o=>match nth bl i,lay E.P t with
   | some (.k _ _ bG cs),some gH=>match Nat.beq g bG with
     | true=>.of (lv cs o gH)
     | false=>.no
   | _,_=>.no
 | .xg i g sz q=>match nth bl i,lay E.P t with
   | some (.r t2 bG bf l),some gH=>match Nat.beq g bG && Nat.beq sz (E.T.ty t2).size with
     | true=>.op (idx l q) fun d=>.of (lv [.e i g bf t2 q d 0] 0 gH)
     | false=>.no
   | _,_=>.no
 | _=>.no
def SW {El:Nat->Type}:aF El->Option Nat
 | .b i _=>some i
 | .e i _ _ _ _ _ _=>some i
 | .w i _ _=>some i
 | _=>none
def IU (X:Nat->Prop) (bl:List (aC T.El)) (ρ:List Value) (w:World) (k:Nat):Option Nat->Prop
 | none=>bh X bl ρ w k
 | some i=>∃ B h,bl[i]? =some B/\ρ[i]? =some h/\k ∈ bA B h
def Eo (P:Program) (t:Nat) (dY:Addr) (us:List Value) (v:Value):Prop:=∀ (op:Oper) (ac:Act) (x:Operand) (w':World),op.op= .load t x->ac.eval x= .pointer (some dY)->e5 w' dY us->bb P op ac w' v w'
theorem r1 {w:World} {t sz n c:Nat} {A:Option Addr} {xs:List Value} (aJ:0 <n) (h:rowIs w t sz (.slice A n c) n xs):∃ g,A=some ⟨g,0,none⟩/\dk A=g/\e5 w ⟨g,0,none⟩ xs/\ ∀ m:Nat,ag (.slice A m c)= [g]:=by
 have hc:=h.cap
 have h:=h.own aJ
 rcases h.2 with ⟨I,aQ⟩ | ⟨g,cap,cur,I,_⟩
 · omega
 · simp only [Value.slice.injEq] at I
   obtain ⟨rfl,_,rfl⟩:=I
   refine ⟨g,rfl,rfl,fun j u aI=>?_,fun m=>?_⟩
   · have il:=h.cells (g:=g) rfl j u aI
     rw [j9] at il
     exact il
   · cases c with
     | zero=>omega
     | succ c=>rfl
theorem afr {α:Type} {T:cY α} {F:Nat->Prop} {w:World} {g:Nat} {l:List α} {xs:List Value} {j:Int} {d:α} (hc:e5 w ⟨g,0,none⟩ xs) (aE:dS T F w xs l) (hi:idx l j=some d):∃ cs,T.rd F w cs d/\e5 w ⟨g,j.toNat*T.size,none⟩ cs:=by
 obtain ⟨_,_,aa⟩:=km hi
 obtain ⟨cs,aw,bi⟩:=G2 T aE aa
 refine ⟨cs,aw,fun q u aT=>?_⟩
 have:=hc (j.toNat*T.size+q) u (bi q u aT)
 simpa using this
theorem aq1 {E:Env} (fD:vw E.T) {W w:World} {M0:List Nat} {X:Nat->Prop} {bl:List (aC E.T.El)} {ρ:List Value} (hm:Mem E.T W M0 X bl ρ w) {t:Nat} {p y:aF E.T.El} {aeA:Value} (aN:ar E.T (bh X bl ρ w) w ρ bl p aeA) (h:(Ca E bl t p).out y) :
 ∃ dY us v,aeA= .pointer (some dY)/\ar E.T (bh X bl ρ w) w ρ bl y v/\e5 w dY us/\Eo E.P t dY us v/\IU X bl ρ w dY.block (SW p):=by
 unfold Ca at h
 split at h
 · rename_i i o
   split at h
   · rename_i ty cs gH I aa
     rw [cW] at I
     have h:=D.nL h
     simp only [ar] at aN
     obtain ⟨g,ax,rfl⟩:=aN
     obtain ⟨g',vs,ak,al,aV⟩:=hm.ok i _ _ I ax
     simp only [Value.pointer.injEq,Option.some.injEq,Addr.mk.injEq,and_true] at ak
     subst ak
     have hc:e5 w ⟨g,0,none⟩ vs:=fun j u aI=>by
      have ag:(a7.dU g ty vs).ok w:=al
      simpa using vF ag aI
     obtain ⟨v,us,bg,bf,cc⟩:=B0 aa h aV hc
     refine ⟨⟨g,o,none⟩,us,v,rfl,bg,by simpa using bf,fun op ac x w' av ad kT=>cc op ac x w' av (by simpa using ad) (by simpa using kT),_,_,I,ax,by simp [bA,ag]⟩
   · exact h.elim
 · rename_i t' d o
   split at h
   · rename_i gH aa
     have h:=D.nL h
     simp only [ar] at aN
     obtain ⟨a,q,cs,rfl,aw,bi,dA⟩:=aN
     obtain ⟨v,us,bg,bf,cc⟩:=B0 aa h (fD.cells bi) dA
     exact ⟨_,us,v,rfl,bg,bf,cc,aw⟩
   · exact h.elim
 · rename_i i g k t' j d o
   split at h
   · rename_i t2 bG bf l gH I aa
     rw [cW] at I
     simp only [ar] at aN
     obtain ⟨_,u,hu,hle,ah⟩:=aN
     rw [I] at ah
     obtain ⟨A,c,xs,ak,al,aV⟩:=hm.ok i _ _ I hu
     subst ak
     split at h
     · rename_i ax aj
       have h:=D.nL h
       obtain ⟨⟨cj,fE,bH,bk,bF,b1,gy⟩,ayN,T0⟩:=ah (Nat.eq_of_beq_eq_true ax)
       obtain ⟨l',cD,dM⟩:=T0 (Nat.eq_of_beq_eq_true aj)
       simp only [iy,Option.some.injEq,Sigma.mk.injEq] at cD
       obtain ⟨fS,cD⟩:=cD
       subst fS
       have cD:=eq_of_heq cD
       subst cD
       simp only [Value.slice.injEq] at bk
       obtain ⟨rfl,rfl,rfl⟩:=bk
       obtain ⟨dV,rfl,ta,hc,kh⟩:=r1 (by have:=(km dM).2.1;omega) al
       obtain ⟨cs,ey,hE⟩:=afr hc aV dM
       obtain ⟨v,us,bg,zZ,cc⟩:=B0 aa h (fD.cells ey) hE
       refine ⟨_,us,v,gy,bg,?_,?_,_,_,I,hu,by simp [bA,kh,ta,dk]⟩
       · simpa [iz,dk] using zZ
       · simpa [iz,dk,Eo] using cc
     · rename_i ax aj
       obtain ⟨d',dM,h⟩:=h
       have h:=D.nL h
       obtain ⟨⟨cj,fE,bH,bk,bF,b1,gy⟩,_,_⟩:=ah (Nat.eq_of_beq_eq_true ax)
       simp only [Value.slice.injEq] at bk
       obtain ⟨rfl,rfl,rfl⟩:=bk
       obtain ⟨dV,rfl,ta,hc,kh⟩:=r1 (by have:=(km dM).2.1;omega) al
       obtain ⟨cs,ey,hE⟩:=afr hc aV dM
       obtain ⟨v,us,bg,zZ,cc⟩:=B0 aa h (fD.cells ey) hE
       refine ⟨_,us,v,gy,bg,?_,?_,_,_,I,hu,by simp [bA,kh,ta,dk]⟩
       · simpa [iz,dk] using zZ
       · simpa [iz,dk,Eo] using cc
     · exact h.elim
   · exact h.elim
 · rename_i i g o
   split at h
   · rename_i t2 sz bG cs gH I aa
     rw [cW] at I
     split at h
     · rename_i ax
       have h:=D.nL h
       simp only [ar] at aN
       obtain ⟨_,u,hu,hle,ah⟩:=aN
       rw [I] at ah
       obtain ⟨A,n,c,xs,ak,al,aV⟩:=hm.ok i _ _ I hu
       subst ak
       obtain ⟨cj,fE,bH,bk,bF,gy⟩:=ah (Nat.eq_of_beq_eq_true ax)
       simp only [Value.slice.injEq] at bk
       obtain ⟨rfl,rfl,rfl⟩:=bk
       obtain ⟨dV,rfl,ta,hc,kh⟩:=r1 bF al
       obtain ⟨v,us,bg,zZ,cc⟩:=B0 aa h aV hc
       refine ⟨_,us,v,gy,bg,?_,?_,_,_,I,hu,by simp [bA,kh,ta,dk]⟩
       · simpa [dk] using zZ
       · simpa [dk,Eo] using cc
     · exact h.elim
   · exact h.elim
 · rename_i i g sz q
   split at h
   · rename_i t2 bG bf l gH I aa
     rw [cW] at I
     split at h
     · rename_i ag
       simp only [Bool.and_eq_true] at ag
       have ax:=Nat.eq_of_beq_eq_true ag.1
       have ai:=Nat.eq_of_beq_eq_true ag.2
       obtain ⟨d,dM,h⟩:=h
       have h:=D.nL h
       simp only [ar] at aN
       obtain ⟨a,o,aet,rfl,aD,⟨gL,u,hu,hle,ah⟩,hc⟩:=aN
       have CA:=hle
       rw [I] at ah CA
       obtain ⟨A,n,c,bk,bF,b1,gy⟩:=ah ax
       have aE:a4 E.T (bh X bl ρ w) w ρ bl [.e i g bf t2 q d 0] [aet]:=by
        simp only [a4,ar]
        refine ⟨aet,[],rfl,⟨gL,u,hu,hle,fun _=>⟨⟨A,n,c,bk,bF,b1,?_⟩,by rw [I];exact Nat.le_refl _,fun _=>⟨l,by rw [I];rfl,dM⟩⟩⟩,rfl⟩
        rw [I,gy,ai];rfl
       obtain ⟨v,us,bg,zZ,cc⟩:=B0 aa h aE hc
       exact ⟨_,us,v,rfl,bg,by simpa using zZ,by simpa [Eo] using cc,aD⟩
     · exact h.elim
   · exact h.elim
 · exact h.elim
end
end bn
namespace bn
open Go Go.RowKit au J
def cellsOf {El:Nat->Type}:aF El->List (aF El)
 | .a l=>l
 | .p (.agg ⟨vs⟩)=>vs.map .p
 | y=>[y]
def fq {α:Type}:List α->Nat->List α->List α
 | l,0,cs=>cs++l.drop cs.length
 | [],_+ 1,_=>[]
 | u::l,n+ 1,cs=>u::fq l n cs
theorem tZ {α:Type}:∀ (l:List α) (n:Nat) (cs:List α),n+cs.length<=l.length->fq l n cs=l.take n++cs++l.drop (n+cs.length)
 | l,0,cs,_=>by simp [fq]
 | [],n+ 1,cs,h=>by simp at h
 | u::l,n+ 1,cs,h=>by
   have:=tZ l n cs (by simp at h;omega)
   simp only [fq,this,List.take_succ_cons,List.cons_append]
   have e:n+ 1 +cs.length=(n+cs.length)+ 1 :=by omega
   rw [e,List.drop_succ_cons]
theorem SU {α:Type} {l:List α} {n:Nat} {cs:List α} (h:n+cs.length<=l.length):(fq l n cs).length=l.length:=by
 rw [tZ l n cs h];simp;omega
theorem aaR (off:Nat):∀ (cs:List Value) (k:Nat) (l:Array Value),off+k+cs.length<=l.size->((cs.zipIdx k).foldl (fun (a:Array Value) (x:Value × Nat)=>a.setIfInBounds (off+x.2) x.1) l).toList=fq l.toList (off+k) cs
 | [],k,l,h=>by
   rw [tZ _ _ _ (by simpa using h)]
   simp
 | c::r,k,l,h=>by
   simp only [List.zipIdx_cons,List.foldl_cons]
   have h':off+(k+ 1)+r.length<=(l.setIfInBounds (off+k) c).size:=by simp at h ⊢;omega
   rw [aaR off r (k+ 1) _ h',tZ _ _ _ (by simpa using h'),tZ _ _ _ (by simpa using h)]
   have aj:off+k <l.toList.length:=by simp at h ⊢;omega
   simp only [Array.toList_setIfInBounds,List.length_cons]
   apply List.ext_getElem?
   intro i
   simp only [List.getElem?_append,List.length_take,List.length_set,List.getElem?_take,List.getElem?_set,List.getElem?_drop,List.length_append,List.length_cons]
   have ak:min (off+(k+ 1)) l.toList.length=off+k+ 1 :=by simp at h aj ⊢;omega
   have al:min (off+k) l.toList.length=off+k:=by omega
   rw [ak,al]
   by_cases c1:i <off+k
   · simp [c1,show i <off+k+ 1 by omega,show i <off+k+ 1 +r.length by omega,show i <off+k+(r.length+ 1) by omega,show i <off+(k+ 1) by omega,show ¬ off+k=i by omega]
   · by_cases c2:i=off+k
     · subst c2
       simp only [show off+k <off+k+ 1 by omega,show off+k <off+k+ 1 +r.length by omega,show off+k <off+k+(r.length+ 1) by omega,show off+k <off+(k+ 1) by omega,if_true,aj,Nat.lt_irrefl,if_false,Nat.sub_self,List.getElem?_cons_zero]
     · by_cases c3:i <off+k+ 1 +r.length
       · simp only [show ¬ i <off+k+ 1 by omega,c3,show i <off+k+(r.length+ 1) by omega,c1,if_false,if_true]
         have:i - (off+k)=(i - (off+k+ 1))+ 1 :=by omega
         rw [this,List.getElem?_cons_succ]
       · simp only [show ¬ i <off+k+ 1 by omega,c3,show ¬ i <off+k+(r.length+ 1) by omega,if_false,show ¬ (off+k=off+(k+ 1)+r.length+(i - (off+k+ 1 +r.length))) by omega]
         congr 1
         omega
def sW {El:Nat->Type} (pl:Nat->Option (Nat × Nat)):List (aF El)->List (Nat × aF El)->Option (List (aF El))
 | cs,[]=>some cs
 | cs,(i,y)::r=>match pl i with
   | some (off,size)=>match Nat.beq (cellsOf y).length size && Nat.ble (off+(cellsOf y).length) cs.length with
     | true=>sW pl (fq cs off (cellsOf y)) r
     | false=>none
   | none=>none
section
variable {T:bT} {F:Nat->Prop} {w:World} {ρ:List Value} {bl:List (aC T.El)}
theorem ql:∀ (vs:List Value),a4 T F w ρ bl (vs.map .p) vs
 | []=>by simp [a4]
 | v::r=>by simp only [List.map_cons,a4];exact ⟨v,r,rfl,rfl,ql r⟩
theorem kv {z:aF T.El} {u:Value} (ai:ar T F w ρ bl z u):a4 T F w ρ bl [z] [u]:=by
 simp only [a4]
 exact ⟨u,[],rfl,ai,rfl⟩
theorem Jm {v:Value} (h:kZ v):v.cells.toList= [v]:=by cases v <;> simp [kZ] at h;rfl
theorem Jl {v:Value} (h:tG v):v.cells.toList= [v]:=by cases v <;> simp [tG] at h;rfl
theorem nf {y:aF T.El} {v:Value} (h:ar T F w ρ bl y v):a4 T F w ρ bl (cellsOf y) v.cells.toList:=by
 cases y with
 | a l=>simp only [ar] at h;obtain ⟨vs,rfl,h⟩:=h;exact h
 | p u=>
   simp only [ar] at h
   subst h
   cases v with
   | agg cs=>obtain ⟨vs⟩:=cs;exact ql vs
   | _=>exact kv (by simp [ar])
 | b i o=>have h':=h;simp only [ar] at h';obtain ⟨g,_,rfl⟩:=h';exact kv h
 | x t d o=>have h':=h;simp only [ar] at h';obtain ⟨a,q,cs,rfl,_⟩:=h';exact kv h
 | s t l=>have h':=h;simp only [ar] at h';obtain ⟨A,c,e⟩:=lb _ h';subst e;exact kv h
 | q t l=>have h':=h;simp only [ar] at h';obtain ⟨_,A,rfl⟩:=h';exact kv h
 | r i g=>have h':=h;simp only [ar] at h';rw [Jm h'.1];exact kv h
 | v i g lo hi=>have h':=h;simp only [ar] at h';rw [Jm h'.1];exact kv h
 | e i g k t j d o=>have h':=h;simp only [ar] at h';rw [Jl h'.1];exact kv h
 | w i g o=>have h':=h;simp only [ar] at h';rw [Jl h'.1];exact kv h
 | m i=>have h':=h;simp only [ar] at h';obtain ⟨g,_,rfl⟩:=h';exact kv h
 | n _ _ _=>have h':=h;simp only [ar] at h';obtain ⟨g,rfl,_⟩:=h';exact kv h
 | f fn cs=>have h':=h;simp only [ar] at h';obtain ⟨g,rfl,_⟩:=h';exact kv h
 | h fn us=>have h':=h;simp only [ar] at h';obtain ⟨g,rfl,_⟩:=h';exact kv h
 | u l=>have h':=h;simp only [ar] at h';obtain ⟨g,rfl,_⟩:=h';exact kv h
 | i t z=>have h':=h;simp only [ar] at h';obtain ⟨g,rfl,_⟩:=h';exact kv h
 | pp i g sz eh=>have h':=h;simp only [ar] at h';obtain ⟨_,_,rfl,_⟩:=h';exact kv h
 | xg i g sz q=>have h':=h;simp only [ar] at h';obtain ⟨_,_,_,rfl,_⟩:=h';exact kv h
theorem a4.lay {l cs:List (aF T.El)} {vs us:List Value} {n:Nat} (h:a4 T F w ρ bl l vs) (h':a4 T F w ρ bl cs us) (hle:n+cs.length<=l.length):a4 T F w ρ bl (fq l n cs) (fq vs n us):=by
 have ak:=h.len
 have al:=h'.len
 rw [tZ _ _ _ hle,tZ _ _ _ (by omega),al]
 exact a4.bK (a4.bK (a4.take n h) h') (a4.drop _ h)
def pn (T:bT) (F:Nat->Prop) (w:World) (ρ:List Value) (bl:List (aC T.El)):List (Nat × aF T.El)->List (Nat × Value)->Prop
 | [],vs=>vs= []
 | (i,y)::r,vs=>∃ v ws,vs=(i,v)::ws/\ar T F w ρ bl y v/\pn T F w ρ bl r ws
theorem P1 {pl:Nat->Option (Nat × Nat)}:∀ {ps:List (Nat × aF T.El)} {vs:List (Nat × Value)} {cs out:List (aF T.El)} {us:List Value},a4 T F w ρ bl cs us->pn T F w ρ bl ps vs->sW pl cs ps=some out-> ∃ os,Instr.fill pl ⟨us⟩ vs=some ⟨os⟩/\a4 T F w ρ bl out os
 | [],vs,cs,out,us,h,aN,he=>by
   simp only [pn] at aN
   subst aN
   simp only [sW,Option.some.injEq] at he
   subst he
   exact ⟨us,rfl,h⟩
 | (i,y)::r,vs,cs,out,us,h,aN,he=>by
   simp only [pn] at aN
   obtain ⟨v,ws,rfl,hy,aE⟩:=aN
   simp only [sW] at he
   split at he
   · rename_i off size KA
     split at he
     · rename_i ag
       simp only [Bool.and_eq_true] at ag
       have ak:=Nat.eq_of_beq_eq_true ag.1
       have al:=Nat.le_of_ble_eq_true ag.2
       have hc:=nf hy
       have l1:=hc.len
       have cB:=h.len
       have iY:v.cells.size=(cellsOf y).length:=by rw [<-l1];simp
       obtain ⟨os,I,aa⟩:=P1 (h.lay hc al) aE he
       refine ⟨os,?_,aa⟩
       simp only [Instr.fill,KA]
       rw [if_neg (by simp only [Bool.or_eq_true,decide_eq_true_eq,bne_iff_ne,not_or];simp only [List.size_toArray];omega)]
       have ai:v.cells.zipIdx.toList=v.cells.toList.zipIdx:=by simp
       rw [<-Array.foldl_toList,ai]
       have:=aaR off v.cells.toList 0 ⟨us⟩ (by simp;omega)
       simp only [Nat.add_zero] at this
       rw [<-I]
       congr 1
       rw [<-Array.toList_inj]
       exact this
     · cases he
   · cases he
end
def GK (P:Program):List Go.Field->Option (List (Nat × Nat))
 | []=>some []
 | f::r=>match P.info? f.type,GK P r with
   | some i,some l=>some ((f.offset,i.size)::l)
   | _,_=>none
theorem aep {P:Program} {w:World}:∀ {ca:List Go.Field} {l:List (Nat × Nat)},GK P ca=some l->(ca.mapM fun (f:Go.Field)=>(do pure (f.offset,<-Go.sizeOf f.type):Sem (Nat × Nat))).run P w= .ok l w
 | [],l,h=>by simp only [GK,Option.some.injEq] at h;subst h;rfl
 | f::r,l,h=>by
   simp only [GK] at h
   split at h
   · rename_i i l' I aa
     simp only [Option.some.injEq] at h
     subst h
     rw [List.mapM_cons]
     simp only [Sem.run_bind,run_sizeOf I,aep aa,Result.andThen_ok,Sem.run_pure]
   · cases h
def Bt (P:Program) (t:TypeId):Option (List Value):=match P.info? t with
 | some i=>match i.zero with
   | some z=>some z.cells.toList
   | none=>none
 | none=>none
theorem IA {P:Program} {t:TypeId} {l:List Value} (h:Bt P t=some l):∃ z,(∀ w,(zeroValue t).run P w= .ok z w)/\z.cells=⟨l⟩:=by
 unfold Bt at h
 split at h
 · rename_i i I
   split at h
   · rename_i z aa
     simp only [Option.some.injEq] at h
     subst h
     refine ⟨z,fun w=>?_,by simp⟩
     simp only [zeroValue,typeInfo,Sem.run_bind]
     simp [go_sem,I,aa]
   · cases h
 · cases h
def PE (E:Env) (t:Nat) (ps:List (Nat × aF E.T.El)):D (aF E.T.El):=match E.P.underlying t,Bt E.P t with
 | some (.struct ca),some z=>match GK E.P ca.toList with
   | some pl=>match sW (fun i=>nth pl i) (z.map .p) ps with
     | some cs=>.ok (.a cs)
     | none=>.no
   | none=>.no
 | _,_=>.no
section
variable {E:Env} {F:Nat->Prop} {w:World} {ρ:List Value} {bl:List (aC E.T.El)}
theorem aqP {t:Nat} {ps:List (Nat × aF E.T.El)} {vs:List (Nat × Value)} {y:aF E.T.El} (aN:pn E.T F w ρ bl ps vs) (h:(PE E t ps).out y) :
 ∃ v,ar E.T F w ρ bl y v/\ ∀ (o:Oper) (a:Act) (xs:List (Nat × Operand)) (w':World),o.op= .build t xs.toArray->xs.map (fun p=>(p.1,a.eval p.2))=vs->bb E.P o a w' v w':=by
 unfold PE at h
 split at h
 · rename_i ca z I aa
   split at h
   · rename_i pl aw
     split at h
     · rename_i cs bi
       have h:aF.a cs=y:=h
       subst h
       obtain ⟨eK,ai,Sf⟩:=IA aa
       obtain ⟨os,dA,hd⟩:=P1 (ql z) aN bi
       refine ⟨.agg ⟨os⟩,by simp only [ar];exact ⟨os,rfl,hd⟩,fun o a xs w' av ad=>?_⟩
       have as9:(fun i=>nth pl i)=(fun i=>(⟨pl⟩:Array (Nat × Nat))[i]?):=by funext i;rw [cW];simp
       have KA:(ca.mapM fun (f:Go.Field)=>(do pure (f.offset,<-Go.sizeOf f.type):Sem (Nat × Nat))).run E.P w'= .ok ⟨pl⟩ w':=by
        have h2:=aep (w:=w') aw
        have e:ca.mapM (fun (f:Go.Field)=>(do pure (f.offset,<-Go.sizeOf f.type):Sem (Nat × Nat)))=List.toArray <$> ca.toList.mapM (fun (f:Go.Field)=>(do pure (f.offset,<-Go.sizeOf f.type):Sem (Nat × Nat))):=by
         rw [<-List.mapM_toArray]
        rw [e,map_eq_pure_bind,Sem.run_bind,h2]
        rfl
       rw [as9] at dA
       simp only [bb,execOp,av,Instr.build,Sem.run_bind,ai,Result.andThen_ok,run_underlying I,KA,List.map_toArray,ad,Sf,dA]
       rfl
     · exact h.elim
   · exact h.elim
 · exact h.elim
end
end bn
namespace au
open Go Go.RowKit J
section
variable {P:Program} {ops:Array Oper} {Q:Exit->Act->World->Prop} {a:Act} {w:World} {rest:List Oper} {o:Oper} {n:cE} {d:Nat} {l:List (Nat × Value)}
 {W:World} {M0 X:List Nat} {E:List a7} {D:List bB}
def a7.nil:a7:=⟨[],fun _=>True,fun _ _ _ _=>trivial⟩
theorem bs.JM {x:a7} {w':World} (hm:bs W M0 X w E D) (i:Nat) (hi:E[i]? =some x) (ah:bp [] w w'):x.ok w':=
 x.law w w' (fun k aj=>ah.block k (hm.lt k (List.mem_flatMap.2 ⟨x,List.mem_of_getElem? hi,aj⟩)).1 (by simp)) (hm.e i hi)
theorem aFT {t:TypeId} {x:Operand} {lo hi:Option Operand} {p r:List UInt8} {i j:Int} (aO:P.underlying t=some .string) (av:o.op= .slice t x lo hi none) (ad:a.eval x=cl p)
 (ns:(lo=none/\i= 0)\/ ∃ z,lo=some z/\a.eval z= .int .i64 i) (jP:(hi=none/\j=p.length)\/ ∃ z,hi=some z/\a.eval z= .int .i64 j) (aE:cut p i j=some r):bb P o a w (cl r) w:=by
 obtain ⟨⟨I,aa,aw⟩,rfl⟩:=Pj aE
 have d_:(⟨p.toArray⟩:ByteArray).size=p.length:=by simp [ByteArray.size]
 have bY:∀ code,(Instr.sliceBound (.int .i64 j) (⟨p.toArray⟩:ByteArray).size code).run P w= .ok j.toNat w:=fun code=>xk rfl (by rw [d_];omega)
 rw [d_] at bY
 have eA:∀ code,(Instr.sliceBound (.int .i64 i) j.toNat code).run P w= .ok i.toNat w:=fun code=>xk rfl (by omega)
 have hJ:∀ code,(Instr.sliceBound (.int .i64 i) (⟨p.toArray⟩:ByteArray).size code).run P w= .ok i.toNat w:=fun code=>xk rfl (by rw [d_];omega)
 rw [d_] at hJ
 have zP:(⟨p.toArray⟩:ByteArray).extract i.toNat j.toNat=⟨((p.take j.toNat).drop i.toNat).toArray⟩:=by
  apply ByteArray.ext
  simp [ByteArray.data_extract,List.drop_take]
 have key:∀ Gl cR:Option Value,((Gl=none/\i= 0)\/Gl=some (.int .i64 i))->((cR=none/\j=p.length)\/cR=some (.int .i64 j)) ->
  (Instr.slice t (.string ⟨p.toArray⟩) Gl cR none).run P w= .ok (cl ((p.take j.toNat).drop i.toNat)) w:=by
  intro Gl cR aq bC
  have ag:∃ m,(Instr.sliceBounds false (⟨p.toArray⟩:ByteArray).size (⟨p.toArray⟩:ByteArray).size Gl cR none).run P w= .ok (i.toNat,j.toNat,m) w:=by
   rcases aq with ⟨rfl,rfl⟩ | rfl <;> rcases bC with ⟨rfl,aI⟩ | rfl
   · exact ⟨_,by simp [Instr.sliceBounds,aI,d_];rfl⟩
   · exact ⟨_,by simp [Instr.sliceBounds,d_,bY];rfl⟩
   · exact ⟨_,by simp [Instr.sliceBounds,hJ,aI,d_];rfl⟩
   · exact ⟨_,by simp [Instr.sliceBounds,d_,bY,eA];rfl⟩
  obtain ⟨m,ag⟩:=ag
  simp only [Instr.slice,Sem.run_bind,run_underlying aO,Result.andThen_ok,Option.isSome_none,Bool.false_eq_true,if_false,ag,Sem.run_pure,zP,cl]
 have oy:=key (lo.map a.eval) (hi.map a.eval) (ns.imp (fun h=>⟨by rw [h.1];rfl,h.2⟩) (fun ⟨z,bk,bF⟩=>by rw [bk,Option.map_some,bF])) (jP.imp (fun h=>⟨by rw [h.1];rfl,h.2⟩) (fun ⟨z,bk,bF⟩=>by rw [bk,Option.map_some,bF]))
 simp only [bb,execOp,av,ad,cl,Instr.sliceAt,Sem.run_bind,run_underlying aO,Result.andThen_ok,Option.map_none,oy]
 rfl
theorem aFZ {t:TypeId} {x:Operand} {v:Value} (hc:P.concrete t=true) (av:o.op= .makeInterface t x) (ad:a.eval x=v):bb P o a w (.iface t v) w:=by
 simp only [bb,execOp,av,ad]
 simp [go_sem,run_makeInterface _ _ _ hc]
end
end au
namespace bn
open Go Go.RowKit au J
abbrev j3 (P:Program) (o:Oper) (a:Act) (v:Value):Prop:=∀ w,bb P o a w v w
section
variable {E:Env} {W w:World} {M0:List Nat} {X:Nat->Prop} {bl:List (aC E.T.El)} {ρ:List Value}
def TT (E:Env) (x y:Operand) (b:Bool):aF E.T.El->aF E.T.El->D (aF E.T.El)
 | .p u,.p v=>match LL x y b u v with
   | some r=>.ok (.p r)
   | none=>.ob b (.ok (.p u)) (.ok (.p v))
 | u,v=>.ob b (.ok u) (.ok v)
theorem ayn {F:Nat->Prop} {a:Act} {x y:Operand} {b:Bool} {u v z:aF E.T.El} (h:(TT E x y b u v).out z) (ad:b=true->ar E.T F w ρ bl u (a.eval x)) (hy:b=false->ar E.T F w ρ bl v (a.eval y)) :
 ∃ r,(if b then a.eval x else a.eval y)=r/\ar E.T F w ρ bl z r:=by
 have key:(D.ob b (.ok u) (.ok v)).out z-> ∃ r,(if b then a.eval x else a.eval y)=r/\ar E.T F w ρ bl z r:=fun h=>by
  rcases h with ⟨ag,h⟩ | ⟨ag,h⟩
  · have h:u=z:=h
    subst h;subst ag
    exact ⟨_,rfl,by simpa using ad rfl⟩
  · have h:v=z:=h
    subst h;subst ag
    exact ⟨_,rfl,by simpa using hy rfl⟩
 unfold TT at h
 split at h
 · rename_i u v
   split at h
   · rename_i r aE
     have h:aF.p r=z:=h
     subst h
     refine ⟨r,ael (a:=a) aE (fun ag=>?_) (fun ag=>?_),by simp [ar]⟩
     · simpa [ar] using ad ag
     · simpa [ar] using hy ag
   · exact key h
 · exact key h
theorem aGa {P:Program} {o:Oper} {a:Act} {c x y:Operand} {b:Bool} {r:Value} (av:o.op= .pick c x y) (hc:a.eval c= .bool b) (h:(if b then a.eval x else a.eval y)=r):bb P o a w r w:=by
 cases b with
 | true=>exact NN av hc (by simpa using h)
 | false=>exact NM av hc (by simpa using h)
def auS (P:Program) (t:TypeId):Bool:=match P.underlying t with
 | some (.struct _)=>true
 | _=>false
def kn {El:Nat->Type}:aF El->Bool
 | .a _=>true
 | .p (.agg _)=>true
 | _=>false
def JC (E:Env) (t:Nat) (b:Bool) (u v:aF E.T.El):D (aF E.T.El):=match kn u && kn v with
 | true=>match (E.T.e t).eq,(E.T.e t).gT (cellsOf u),(E.T.e t).gT (cellsOf v) with
   | some f,some d,some e=>.ok (.p (.bool (cond b (f d e) (!f d e))))
   | _,_,_=>.no
 | false=>.no
def acw:Value->Bool
 | .pointer none=>true
 | _=>false
def KO {El:Nat->Type}:aF El->Bool
 | .b _ _=>true
 | .x _ _ _=>true
 | .e _ _ _ _ _ _ _=>true
 | .w _ _ _=>true
 | _=>false
def TX (P:Program) (t:TypeId):Bool:=match P.underlying t with
 | some (.pointer _)=>true
 | _=>false
def Au (op:BinOp) (b:Bool):Option Bool:=match op with
 | .eql=>some b
 | .neq=>some (!b)
 | _=>none
def Zl (op:BinOp) (m n:Int):Option Value:=match op with
 | .quo=>some (.int .i64 (aA (m.tdiv n)))
 | .rem=>some (.int .i64 (m.tmod n))
 | _=>none
def PD (E:Env) (t:Nat) (op:BinOp) (gK:Bool) (u v:aF E.T.El):D (aF E.T.El):=match auS E.P t,op with
 | true,.eql=>JC E t true u v
 | true,.neq=>JC E t false u v
 | _,_=>match u,v with
   | .p x,.p y=>match bin (jT (E.P.underlying t)) gK op x y with
     | some r=>.ok (.p r)
     | none=>match x,y with
       | .int .i64 m,.int .i64 n=>match Zl op m n with
         | some r=>.op (At (!decide (n= 0))) fun _=>.ok (.p r)
         | none=>.no
       | .int .u64 m,.int _ (.ofNat n)=>match op,Nat.ble n 64 with
         | .shr,true=>.ok (.p (.int .u64 (uA m n)))
         | _,_=>.no
       | _,_=>.no
   | u,.p y=>match TX E.P t && KO u && acw y,Au op false with
     | true,some b=>.ok (.p (.bool b))
     | _,_=>.no
   | _,_=>.no
theorem aGb {P:Program} {o:Oper} {a:Act} {t t':TypeId} {x y:Operand} {p:Addr} {op:BinOp} {b:Bool} (aO:TX P t=true) (ag:Au op false=some b) (av:o.op= .binOp op t x y t') (ad:a.eval x= .pointer (some p)) (hy:a.eval y= .pointer none):bb P o a w (.bool b) w:=by
 have hu:∃ e,P.underlying t=some (.pointer e):=by
  unfold TX at aO
  split at aO
  · rename_i e h;exact ⟨e,h⟩
  · cases aO
 obtain ⟨e,hu⟩:=hu
 have h:∀ d:Nat,(Op.equalIn (d+ 1) t (.pointer (some p)) (.pointer none)).run P w= .ok false w:=fun d=>by
  simp [Op.equalIn,run_underlying hu]
 cases op <;> simp only [Au,Option.some.injEq,reduceCtorEq] at ag <;> subst ag
 · have aa:(binOp .eql t (.pointer (some p)) (.pointer none)).run P w= .ok (.bool false) w:=by
    simp only [binOp]
    simp [Op.equal,Op.maxDepth,h 9999]
   simp only [bb,execOp,av,ad,hy]
   simp [go_sem,aa]
 · have aa:(binOp .neq t (.pointer (some p)) (.pointer none)).run P w= .ok (.bool true) w:=by
    simp only [binOp]
    simp [Op.equal,Op.maxDepth,h 9999]
   simp only [bb,execOp,av,ad,hy]
   simp [go_sem,aa]
theorem acx {F:Nat->Prop} {y:aF E.T.El} {v:Value} (h:KO y=true) (ah:ar E.T F w ρ bl y v):∃ p,v= .pointer (some p):=by
 cases y <;> simp only [KO,reduceCtorEq] at h
 · simp only [ar] at ah;obtain ⟨g,_,rfl⟩:=ah;exact ⟨_,rfl⟩
 · simp only [ar] at ah;obtain ⟨_,_,_,rfl,_⟩:=ah;exact ⟨_,rfl⟩
 · simp only [ar] at ah;cases v <;> simp [tG] at ah;rename_i p;cases p <;> simp at ah;exact ⟨_,rfl⟩
 · simp only [ar] at ah;cases v <;> simp [tG] at ah;rename_i p;cases p <;> simp at ah;exact ⟨_,rfl⟩
theorem F6 {F:Nat->Prop} {y:aF E.T.El} {v:Value} (h:kn y=true) (ah:ar E.T F w ρ bl y v):v= .agg ⟨v.cells.toList⟩:=by
 cases y <;> simp only [kn,reduceCtorEq] at h
 · rename_i u
   simp only [ar] at ah
   subst ah
   cases v <;> simp only [kn,reduceCtorEq] at h
   simp [Value.cells]
 · simp only [ar] at ah
   obtain ⟨vs,rfl,_⟩:=ah
   simp [Value.cells]
theorem aqO (a3:c8 E) {F:Nat->Prop} {o:Oper} {a:Act} {t:Nat} {op:BinOp} {gK:Bool} {x y:Operand} {t':TypeId} {u v z:aF E.T.El} (h:(PD E t op gK u v).out z) (av:o.op= .binOp op t x y t') (ai:gK=true-> ∀ k n,a.eval y= .int k n->n≠ 0)
 (ad:ar E.T F w ρ bl u (a.eval x)) (hy:ar E.T F w ρ bl v (a.eval y)):∃ r,j3 E.P o a r/\ar E.T F w ρ bl z r:=by
 have eZ:∀ {b:Bool},op=cond b .eql .neq->(JC E t b u v).out z-> ∃ r,j3 E.P o a r/\ar E.T F w ρ bl z r:=fun {b} ag h=>by
  unfold JC at h
  split at h
  · rename_i ax
    simp only [Bool.and_eq_true] at ax
    split at h
    · rename_i f d e I aa aw
      have h:aF.p (.bool (cond b (f d e) (!f d e)))=z:=h
      subst h
      have asP:=a3.tb.gT _ _ _ aa _ _ _ _ _ (nf ad)
      have asQ:=a3.tb.gT _ _ _ aw _ _ _ _ _ (nf hy)
      exact ⟨.bool (cond b (f d e) (!f d e)),fun w'=>a3.eq t f I _ _ _ _ d e asP asQ o a x y t' b (by rw [av,ag]) (F6 ax.1 ad) (F6 ax.2 hy) w',by simp only [ar]⟩
    · exact h.elim
  · exact h.elim
 unfold PD at h
 split at h
 · exact eZ (b:=true) rfl h
 · exact eZ (b:=false) rfl h
 · split at h
   · rename_i p q
     simp only [ar] at ad hy
     split at h
     · rename_i r aE
       have h:aF.p r=z:=h
       subst h
       exact ⟨r,fun w'=>YG (fun k aj=>tI aj) ai aE av ad hy,by simp only [ar]⟩
     · split at h
       · rename_i m n
         split at h
         · rename_i r aE
           obtain ⟨b,I,aa⟩:=h
           have aa:aF.p r=z:=aa
           subst aa
           have aJ:=Tx I
           refine ⟨r,fun w'=>?_,by simp only [ar]⟩
           unfold Zl at aE
           split at aE
           · simp only [Option.some.injEq] at aE;subst aE;exact ajI av ad hy aJ
           · simp only [Option.some.injEq] at aE;subst aE;exact ajJ av ad hy aJ
           · cases aE
         · exact h.elim
       · rename_i m k n _
         split at h
         · rename_i ag _
           have h:aF.p (.int .u64 (uA m n))=z:=h
           subst h
           exact ⟨_,fun w'=>aGd (by assumption) av ad hy,by simp only [ar]⟩
         · exact h.elim
       · exact h.elim
   · rename_i q _
     split at h
     · rename_i b I aa
       have h:aF.p (.bool b)=z:=h
       subst h
       simp only [Bool.and_eq_true] at I
       simp only [ar] at hy
       obtain ⟨p,aN⟩:=acx I.1.2 ad
       have aT:q= .pointer none:=by
        cases q <;> simp only [acw,reduceCtorEq,and_false] at I
        rename_i rV
        cases rV <;> simp at I ⊢
       exact ⟨_,fun w'=>aGb I.1.1 aa av aN (by rw [hy,aT]),by simp only [ar]⟩
     · exact h.elim
   · exact h.elim
end
end bn
namespace bn
open Go Go.RowKit au J
def mW (P:Program) (t:TypeId):Option (Nat × Nat):=match P.underlying t with
 | some (.slice e)=>match P.info? e with
   | some i=>some (e,i.size)
   | none=>none
 | _=>none
theorem qn {P:Program} {t e n:Nat} (h:mW P t=some (e,n)):P.underlying t=some (.slice e)/\ ∀ w,(Go.sizeOf e).run P w= .ok n w:=by
 unfold mW at h
 split at h
 · rename_i e' I
   split at h
   · rename_i i aa
     simp only [Option.some.injEq,Prod.mk.injEq] at h
     obtain ⟨rfl,rfl⟩:=h
     exact ⟨I,run_sizeOf aa⟩
   · cases h
 · cases h
def PJ (E:Env) (bl:List (aC E.T.El)) (t:Nat):aF E.T.El->aF E.T.El->D (aF E.T.El)
 | .s t' l,.p (.int .i64 j)=>match mW E.P t with
   | some (_,n)=>match Nat.beq n (E.T.ty t').size with
     | true=>.op (idx l j) fun d=>.ok (.x t' d 0)
     | false=>.no
   | none=>.no
 | .q t' l,.p (.int .i64 j)=>match mW E.P t with
   | some (_,n)=>match Nat.beq n (E.T.ty t').size with
     | true=>.op (idx l j) fun d=>.ok (.x t' d 0)
     | false=>.no
   | none=>.no
 | .r i g,.p (.int .i64 j)=>match mW E.P t,nth bl i with
   | some (_,n),some (.r t' bG k l)=>match Nat.beq g bG && Nat.beq n (E.T.ty t').size with
     | true=>.op (idx l j) fun d=>.ok (.e i g k t' j d 0)
     | false=>.no
   | some (_,n),some (.k _ sz bG cs)=>match Nat.beq g bG && Nat.beq n sz && decide (0 <=j) && Nat.ble ((j.toNat+ 1)*sz) cs.length && Nat.blt 0 sz with
     | true=>.ok (.w i g (j.toNat*sz))
     | false=>.no
   | _,_=>.no
 | .v i g lo hi,.p (.int .i64 j)=>match mW E.P t,nth bl i with
   | some (_,n),some (.r t' bG k l)=>match Nat.beq g bG && Nat.beq n (E.T.ty t').size with
     | true=>.op (idx ((l.take hi.toNat).drop lo.toNat) j) fun d=>.ok (.e i g k t' (lo+j) d 0)
     | false=>.no
   | _,_=>.no
 | .pp i g sz eh,.p (.int .i64 j)=>match mW E.P t with
   | some (_,n)=>match Nat.beq n 1 with
     | true=>.op (idx eh j) fun q=>.ok (.xg i g sz q)
     | false=>.no
   | none=>.no
 | _,_=>.no
theorem auz {α:Type} {l:List α} {lo hi j:Int} {d:α} (aQ:0 <=lo) (I:hi<=l.length) (h:idx ((l.take hi.toNat).drop lo.toNat) j=some d):idx l (lo+j)=some d/\ 0 <=j/\lo+j <hi:=by
 obtain ⟨a,b,c⟩:=km h
 simp only [List.length_drop,List.length_take] at b
 rw [List.getElem?_drop,List.getElem?_take] at c
 split at c
 · refine ⟨?_,a,by omega⟩
   unfold idx
   rw [if_pos (by omega),show (lo+j).toNat=lo.toNat+j.toNat by omega]
   exact c
 · cases c
section
variable {E:Env} {W w:World} {M0:List Nat} {X:Nat->Prop} {bl:List (aC E.T.El)} {ρ:List Value}
theorem Dn {t sz n c:Nat} {A:Option Addr} {xs:List Value} (h:rowIs w t sz (.slice A n c) n xs) (aJ:0 <n):∃ g,A=some ⟨g,0,none⟩:=h.cap.2.2.2 (by have:=h.cap.1;omega)
theorem Mg {t sz n c:Nat} {A:Option Addr} {xs:List Value} (h:rowIs w t sz (.slice A n c) n xs):n<=c:=h.cap.1
theorem aay {F:Nat->Prop} {t':Nat} {l:List (E.T.El t')} {o:Oper} {a:Act} {t e n:Nat} {x y:Operand} {j:Int} {d:E.T.El t'} {A:Option Addr} {c:Nat} (ao:mW E.P t=some (e,n)) (aJ:n=(E.T.ty t').size) (I:idx l j=some d) (av:o.op= .indexAddr t x y)
 (ad:a.eval x= .slice A l.length c) (fY:(b4 (E.T.ty t')).rd F w [.slice A l.length c] l) (hy:a.eval y= .int .i64 j):∃ r,j3 E.P o a r/\ar E.T F w ρ bl (.x t' d 0) r:=by
 have Cl:=I
 obtain ⟨hu,ai⟩:=qn ao
 obtain ⟨dl,aI,cs,bk,bF⟩:=AH _ fY I
 refine ⟨_,fun w'=>n1 hu ai av ad hy dl aI,?_⟩
 simp only [ar]
 obtain ⟨cj,bH,ak,al,aV,bS,dw⟩:=(fY:(b4 _).rd _ w _ l)
 have b3:l≠ []:=by intro e;subst e;have:=(km Cl).2.1;simp at this
 have aD:=(dw b3).2.1
 simp only [List.cons.injEq,Value.slice.injEq,and_true,true_and] at ak
 obtain ⟨rfl,rfl⟩:=ak
 exact ⟨dk A,gg A+j.toNat*(E.T.ty t').size,cs,by rw [aJ];simp,aD,bk,bF⟩
theorem aqV {o:Oper} {a:Act} {t:Nat} {x y:Operand} {u v z:aF E.T.El} (hm:Mem E.T W M0 X bl ρ w) (h:(PJ E bl t u v).out z) (av:o.op= .indexAddr t x y)
 (ad:ar E.T (bh X bl ρ w) w ρ bl u (a.eval x)) (hy:ar E.T (bh X bl ρ w) w ρ bl v (a.eval y)):∃ r,j3 E.P o a r/\ar E.T (bh X bl ρ w) w ρ bl z r:=by
 unfold PJ at h
 split at h
 · rename_i t' l j
   split at h
   · rename_i e n ao
     split at h
     · rename_i ag
       obtain ⟨d,I,aa⟩:=h
       have aa:aF.x t' d 0 =z:=aa
       subst aa
       simp only [ar] at ad hy
       obtain ⟨A,c,ah⟩:=lb _ ad
       rw [ah] at ad
       exact aay ao (Nat.eq_of_beq_eq_true ag) I av ah ad hy
     · exact h.elim
   · exact h.elim
 · rename_i t' l j
   split at h
   · rename_i e n ao
     split at h
     · rename_i ag
       obtain ⟨d,I,aa⟩:=h
       have aa:aF.x t' d 0 =z:=aa
       subst aa
       simp only [ar] at ad hy
       obtain ⟨A,c,ah⟩:=lb _ ad.1
       have ad:=ad.1
       rw [ah] at ad
       exact aay ao (Nat.eq_of_beq_eq_true ag) I av ah ad hy
     · exact h.elim
   · exact h.elim
 · rename_i i g j
   split at h
   · rename_i e n t' bG k l ao hi
     rw [cW] at hi
     split at h
     · rename_i ag
       simp only [Bool.and_eq_true] at ag
       obtain ⟨d,I,aa⟩:=h
       have aa:aF.e i g k t' j d 0 =z:=aa
       subst aa
       simp only [ar] at ad hy
       obtain ⟨_,aM,bk,bF,b1⟩:=ad
       rw [hi] at bF b1
       have ju:=b1 (Nat.eq_of_beq_eq_true ag.1)
       obtain ⟨A,c,xs,ak,al,aV⟩:=hm.ok i _ _ hi bk
       subst ak
       obtain ⟨Kt,Ku,zG⟩:=km I
       obtain ⟨dV,rfl⟩:=Dn al (by omega)
       obtain ⟨hu,ai⟩:=qn ao
       have aJ:=Nat.eq_of_beq_eq_true ag.2
       refine ⟨_,fun w'=>n1 hu ai av ju hy rfl ⟨Kt,by omega⟩,?_⟩
       simp only [ar]
       refine ⟨trivial,_,bk,by rw [hi];exact bF,fun _=>⟨⟨_,_,_,rfl,Kt,by omega,by simp [dk,gg,hi,iz,aJ]⟩,by rw [hi];exact Nat.le_refl _,fun _=>⟨l,by rw [hi];rfl,I⟩⟩⟩
     · exact h.elim
   · rename_i e n t' sz bG cs ao hi
     rw [cW] at hi
     split at h
     · rename_i ag
       simp only [Bool.and_eq_true,decide_eq_true_eq] at ag
       obtain ⟨⟨⟨⟨bY,eA⟩,hJ⟩,hZ⟩,I9⟩:=ag
       have h:aF.w i g (j.toNat*sz)=z:=h
       subst h
       simp only [ar] at ad hy
       obtain ⟨_,aM,bk,bF,b1⟩:=ad
       rw [hi] at bF b1
       have ju:=b1 (Nat.eq_of_beq_eq_true bY)
       obtain ⟨A,m,c,xs,ak,al,aV⟩:=hm.ok i _ _ hi bk
       subst ak
       have hZ:=Nat.le_of_ble_eq_true hZ
       have I9:=Nat.le_of_ble_eq_true I9
       have hlen:=aV.len
       have aG0:=al.len
       have aGY:j.toNat <m:=by
        rcases Nat.lt_or_ge j.toNat m with q | q
        · exact q
        · have:=Nat.mul_le_mul_right sz q
          rw [Nat.add_mul] at hZ
          omega
       obtain ⟨dV,rfl⟩:=Dn al (by omega)
       obtain ⟨hu,ai⟩:=qn ao
       have aJ:=Nat.eq_of_beq_eq_true eA
       refine ⟨_,fun w'=>n1 hu ai av ju hy rfl ⟨hJ,by omega⟩,?_⟩
       simp only [ar]
       exact ⟨trivial,_,bk,by rw [hi];exact bF,fun _=>⟨_,_,_,rfl,by omega,by simp [dk,gg,aJ]⟩⟩
     · exact h.elim
   · exact h.elim
 · rename_i i g lo cR j
   split at h
   · rename_i e n t' bG k l ao hi
     rw [cW] at hi
     split at h
     · rename_i ag
       simp only [Bool.and_eq_true] at ag
       obtain ⟨d,I,aa⟩:=h
       have aa:aF.e i g k t' (lo+j) d 0 =z:=aa
       subst aa
       simp only [ar] at ad hy
       obtain ⟨_,aM,bk,bF,b1⟩:=ad
       rw [hi] at bF b1
       obtain ⟨cj,eU,bH,B,dg,pV,l1,cB,ju,_,bO⟩:=b1 (Nat.eq_of_beq_eq_true ag.1)
       obtain ⟨A,c,xs,ak,al,aV⟩:=hm.ok i _ _ hi bk
       rw [ak] at dg al
       simp only [Value.slice.injEq] at dg
       obtain ⟨rfl,rfl,rfl⟩:=dg
       obtain ⟨Cl,acz,ru⟩:=auz pV cB I
       obtain ⟨dV,rfl⟩:=Dn al (by omega)
       have ra:=Mg al
       obtain ⟨hu,ai⟩:=qn ao
       have aJ:=Nat.eq_of_beq_eq_true ag.2
       rw [bO (by omega)] at ju
       simp only [Option.map_some,j9] at ju
       refine ⟨_,fun w'=>n1 hu ai av ju hy rfl ⟨acz,by omega⟩,?_⟩
       simp only [ar]
       refine ⟨trivial,_,bk,by rw [hi];exact bF,fun _=>⟨⟨_,_,_,ak,by omega,by omega,?_⟩,by rw [hi];exact Nat.le_refl _,fun _=>⟨l,by rw [hi];rfl,Cl⟩⟩⟩
       rw [hi]
       have:(lo+j).toNat=lo.toNat+j.toNat:=by omega
       simp [dk,gg,iz,aJ,this,Nat.add_mul]
     · exact h.elim
   · exact h.elim
 · rename_i i g sz eh j
   split at h
   · rename_i e n ao
     split at h
     · rename_i ag
       obtain ⟨q,I,aa⟩:=h
       have aa:aF.xg i g sz q=z:=aa
       subst aa
       simp only [ar] at ad hy
       obtain ⟨A,c,ah,_,_,bi⟩:=ad
       obtain ⟨Kt,Ku,zG⟩:=km I
       have b3:eh≠ []:=by intro e;subst e;simp at Ku
       obtain ⟨dl,aD,xs,bg,bf⟩:=bi b3
       obtain ⟨u,kx,qu⟩:=bg.at_ zG
       obtain ⟨hu,ai⟩:=qn ao
       have aJ:=Nat.eq_of_beq_eq_true ag
       refine ⟨_,fun w'=>n1 hu ai av ah hy dl ⟨Kt,by omega⟩,?_⟩
       simp only [ar]
       refine ⟨dk A,gg A+j.toNat,u,by rw [aJ];simp,aD,qu,fun m y hm=>?_⟩
       cases m with
       | zero=>
         simp only [List.getElem?_cons_zero,Option.some.injEq] at hm
         subst hm
         simpa using bf _ _ kx
       | succ m=>simp at hm
     · exact h.elim
   · exact h.elim
 · exact h.elim
def PN (E:Env) (bl:List (aC E.T.El)) (t:Nat):aF E.T.El->D (aF E.T.El)
 | .p (.string ⟨⟨p⟩⟩)=>match jT (E.P.underlying t) with
   | some .s=>.ok (.p (.int .i64 (p.length:Int)))
   | _=>.no
 | .p (.slice _ n _)=>match jT (E.P.underlying t) with
   | some .ck=>.ok (.p (.int .i64 (n:Int)))
   | _=>.no
 | .s _ l=>match jT (E.P.underlying t) with
   | some .ck=>.ok (.p (.int .i64 (l.length:Int)))
   | _=>.no
 | .q _ l=>match jT (E.P.underlying t) with
   | some .ck=>.ok (.p (.int .i64 (l.length:Int)))
   | _=>.no
 | .pp _ _ _ l=>match jT (E.P.underlying t) with
   | some .ck=>.ok (.p (.int .i64 (l.length:Int)))
   | _=>.no
 | .r i g=>match jT (E.P.underlying t),nth bl i with
   | some .ck,some (.r _ bG _ l)=>match Nat.beq g bG with
     | true=>.ok (.p (.int .i64 (l.length:Int)))
     | false=>.no
   | some .ck,some (.k _ sz bG cs)=>match Nat.beq g bG && Nat.blt 0 sz with
     | true=>.ok (.p (.int .i64 ((cs.length / sz:Nat):Int)))
     | false=>.no
   | _,_=>.no
 | .v i g lo hi=>match jT (E.P.underlying t) with
   | some .ck=>match Nat.beq g (q8 bl i) with
     | true=>.ok (.p (.int .i64 (hi - lo)))
     | false=>.no
   | _=>.no
 | _=>.no
theorem aq0 {o:Oper} {a:Act} {t:Nat} {x:Operand} {u z:aF E.T.El} (hm:Mem E.T W M0 X bl ρ w) (h:(PN E bl t u).out z) (av:o.op= .call { callee:=.builtin .len,args:=#[x],argTypes:=#[t] })
 (ad:ar E.T (bh X bl ρ w) w ρ bl u (a.eval x)):∃ r,j3 E.P o a r/\ar E.T (bh X bl ρ w) w ρ bl z r:=by
 have fin:∀ {A:Option Addr} {n c:Nat},jT (E.P.underlying t)=some .ck->a.eval x= .slice A n c->(D.ok (aF.p (.int .i64 (n:Int)))).out z-> ∃ r,j3 E.P o a r/\ar E.T (bh X bl ρ w) w ρ bl z r:=fun {A n c} aj ah h=>by
  have h:aF.p (.int .i64 (n:Int))=z:=h
  subst h
  obtain ⟨e,he⟩:=(tI aj:mf.ok E.P t .ck)
  exact ⟨_,fun w'=>ajC he av ah,by simp only [ar]⟩
 unfold PN at h
 split at h
 · rename_i p
   split at h
   · rename_i aj
     have h:aF.p (.int .i64 (p.length:Int))=z:=h
     subst h
     simp only [ar] at ad
     exact ⟨_,fun w'=>ajD (tI aj) av ad,by simp only [ar]⟩
   · exact h.elim
 · split at h
   · rename_i aj;simp only [ar] at ad;exact fin aj ad h
   · exact h.elim
 · split at h
   · rename_i aj;simp only [ar] at ad;obtain ⟨A,c,ah⟩:=lb _ ad;exact fin aj ah h
   · exact h.elim
 · split at h
   · rename_i aj;simp only [ar] at ad;obtain ⟨A,ah⟩:=ad.2;exact fin aj ah h
   · exact h.elim
 · split at h
   · rename_i aj;simp only [ar] at ad;obtain ⟨A,c,ah,_⟩:=ad;exact fin aj ah h
   · exact h.elim
 · rename_i i g
   split at h
   · rename_i t' bG k l aj hi
     rw [cW] at hi
     split at h
     · rename_i ag
       simp only [ar] at ad
       obtain ⟨_,aM,bk,bF,b1⟩:=ad
       rw [hi] at b1
       obtain ⟨A,c,xs,ak,_⟩:=hm.ok i _ _ hi bk
       exact fin aj ((b1 (Nat.eq_of_beq_eq_true ag)).trans ak) h
     · exact h.elim
   · rename_i t' sz bG cs aj hi
     rw [cW] at hi
     split at h
     · rename_i ag
       simp only [Bool.and_eq_true] at ag
       simp only [ar] at ad
       obtain ⟨_,aM,bk,bF,b1⟩:=ad
       rw [hi] at b1
       obtain ⟨A,m,c,xs,ak,al,aV⟩:=hm.ok i _ _ hi bk
       have hlen:=aV.len
       have aa:=al.len
       have d_:=Nat.le_of_ble_eq_true ag.2
       have aT:cs.length / sz=m:=by rw [<-hlen,aa];exact Nat.mul_div_cancel _ d_
       rw [aT] at h
       exact fin aj ((b1 (Nat.eq_of_beq_eq_true ag.1)).trans ak) h
     · exact h.elim
   · exact h.elim
 · rename_i i g lo cR
   split at h
   · rename_i aj
     split at h
     · rename_i ag
       have ag:=Nat.eq_of_beq_eq_true ag
       rw [zt] at ag
       simp only [ar] at ad
       obtain ⟨_,aM,bk,bF,b1⟩:=ad
       obtain ⟨A,m,c,B,dg,pV,l1,cB,ah,_⟩:=b1 ag
       refine fin aj ah ?_
       have h:aF.p (.int .i64 (cR - lo))=z:=h
       rw [<-h,show ((cR.toNat - lo.toNat:Nat):Int)=cR - lo by omega]
       exact rfl
     · exact h.elim
   · exact h.elim
 · exact h.elim
end
end bn
namespace bn
open Go Go.RowKit au J
theorem ao6 {α:Type} {T:cY α} {F:Nat->Prop} {w:World} {A:Option Addr} {c:Nat} {li r:List α} {i j:Int} (h:(b4 T).rd F w [.slice A li.length c] li) (aE:cut li i j=some r) :
 (b4 T).rd F w [.slice (if c=i.toNat then A else A.map (·.add (i.toNat*T.size))) (j.toNat - i.toNat) (c - i.toNat)] r/\j.toNat - i.toNat=r.length/\li.length<=c:=by
 obtain ⟨⟨aQ,I,aa⟩,rfl⟩:=Pj aE
 obtain ⟨ea,c1,ak,al,aV,bS,dw⟩:=h
 simp only [List.cons.injEq,Value.slice.injEq,and_true,true_and] at ak
 obtain ⟨rfl,rfl⟩:=ak
 have hlen:((li.take j.toNat).drop i.toNat).length=j.toNat - i.toNat:=by rw [List.length_drop,List.length_take];omega
 refine ⟨?_,hlen.symm,al⟩
 refine ⟨_,c - i.toNat,by rw [hlen],by rw [hlen];omega,by omega,fun dl=>?_,fun b3=>?_⟩
 · split at dl
   · have:=bS dl;omega
   · cases A with
     | none=>have:=bS rfl;omega
     | some dY=>cases dl
 · have gS:0 <((li.take j.toNat).drop i.toNat).length:=List.length_pos_iff.2 b3
   have Kx:li≠ []:=by intro e;subst e;simp at gS
   obtain ⟨dC,bG,xs,fK,iT⟩:=dw Kx
   have rb:c≠i.toNat:=by omega
   rw [if_neg rb,dC]
   refine ⟨?_,?_⟩
   · simp only [Option.map_some,j9]
     rfl
   simp only [Option.map_some,j9]
   refine ⟨bG,_,rZ i.toNat j.toNat fK,fun q u hu=>?_⟩
   have aT:(xs.take (j.toNat*T.size))[i.toNat*T.size+q]? =some u:=by rwa [List.getElem?_drop] at hu
   rw [List.getElem?_take] at aT
   split at aT
   · have:=iT (i.toNat*T.size+q) u aT
     simpa [dk,gg,Nat.add_assoc] using this
   · cases aT
def pu {El:Nat->Type} (z:Int):Option (aF El)->Option Int
 | none=>some z
 | some (.p (.int .i64 n))=>some n
 | _=>none
def qv (n:Nat) (lo hi:Int):Option Unit:=if 0 <=lo/\lo<=hi/\hi<=(n:Int) then some () else none
theorem agz {n:Nat} {lo hi:Int} {u:Unit} (h:qv n lo hi=some u):0 <=lo/\lo<=hi/\hi<=(n:Int):=by
 unfold qv at h
 split at h
 · assumption
 · cases h
def Ec {El:Nat->Type}:Option (aF El)->Bool
 | none=>true
 | some (.p (.int .i64 (.ofNat 0)))=>true
 | _=>false
def PH (E:Env) (bl:List (aC E.T.El)) (t:Nat) (u:aF E.T.El) (lo hi:Option (aF E.T.El)):D (aF E.T.El):=match u with
 | .s t' l=>match mW E.P t,pu 0 lo,pu (l.length:Int) hi with
   | some (_,n),some i,some j=>match Nat.beq n (E.T.ty t').size with
     | true=>.op (cut l i j) fun r=>.ok (.s t' r)
     | false=>.no
   | _,_,_=>.no
 | .p (.string ⟨⟨p⟩⟩)=>match jT (E.P.underlying t),pu 0 lo,pu (p.length:Int) hi with
   | some .s,some i,some j=>.op (cut p i j) fun r=>.ok (.p (cl r))
   | _,_,_=>.no
 | .r i g=>match mW E.P t,nth bl i with
   | some (_,n),some (.r t' bG _ l)=>match pu 0 lo,pu (l.length:Int) hi,Nat.beq g bG && Nat.beq n (E.T.ty t').size with
     | some a,some b,true=>.op (qv l.length a b) fun _=>.ok (.v i g a b)
     | _,_,_=>.no
   | _,_=>.no
 | .v i g p q=>match mW E.P t,nth bl i with
   | some (_,n),some (.r t' bG _ l)=>match pu 0 lo,pu (q - p) hi,Nat.beq g bG && Nat.beq n (E.T.ty t').size with
     | some a,some b,true=>.op (qv (q - p).toNat a b) fun _=>.ok (.v i g (p+a) (p+b))
     | _,_,_=>.no
   | _,_=>.no
 | .p (.slice none 0 0)=>match mW E.P t,Ec lo && Ec hi with
   | some _,true=>.ok (.p (.slice none 0 0))
   | _,_=>.no
 | _=>.no
section
variable {E:Env} {W w:World} {M0:List Nat} {X:Nat->Prop} {bl:List (aC E.T.El)} {ρ:List Value} {a:Act}
def zc (E:Env) (F:Nat->Prop) (w:World) (ρ:List Value) (bl:List (aC E.T.El)) (a:Act):Option Operand->Option (aF E.T.El)->Prop
 | none,none=>True
 | some x,some y=>ar E.T F w ρ bl y (a.eval x)
 | _,_=>False
theorem sO {F:Nat->Prop} {lo:Option Operand} {u:Option (aF E.T.El)} {z i:Int} (h:zc E F w ρ bl a lo u) (ag:pu z u=some i):(lo=none/\i=z)\/ ∃ x,lo=some x/\a.eval x= .int .i64 i:=by
 cases lo with
 | none=>
   cases u with
   | none=>simp only [pu,Option.some.injEq] at ag;exact .inl ⟨rfl,ag.symm⟩
   | some y=>exact h.elim
 | some x=>
   cases u with
   | none=>exact h.elim
   | some y=>
     right
     refine ⟨x,rfl,?_⟩
     have h:ar E.T F w ρ bl y (a.eval x):=h
     unfold pu at ag
     split at ag
     · rename_i e;cases e
     · rename_i n e
       simp only [Option.some.injEq] at e ag
       subst e;subst ag
       simpa only [ar] using h
     · cases ag
theorem NU {F:Nat->Prop} {lo:Option Operand} {u:Option (aF E.T.El)} (h:zc E F w ρ bl a lo u) (ag:Ec u=true):(lo=none/\(0 :Int)= 0)\/ ∃ x,lo=some x/\a.eval x= .int .i64 0 :=by
 refine sO (z:=0) (i:=0) h ?_
 unfold Ec at ag
 split at ag
 · rfl
 · rfl
 · cases ag
theorem aqS {o:Oper} {t:Nat} {x:Operand} {lo hi:Option Operand} {u z:aF E.T.El} {age agd:Option (aF E.T.El)} (hm:Mem E.T W M0 X bl ρ w) (h:(PH E bl t u age agd).out z) (av:o.op= .slice t x lo hi none)
 (ad:ar E.T (bh X bl ρ w) w ρ bl u (a.eval x)) (ns:zc E (bh X bl ρ w) w ρ bl a lo age) (jP:zc E (bh X bl ρ w) w ρ bl a hi agd):∃ r,j3 E.P o a r/\ar E.T (bh X bl ρ w) w ρ bl z r:=by
 unfold PH at h
 split at h
 · rename_i t' l
   split at h
   · rename_i e n i j ao I aa
     split at h
     · rename_i ag
       obtain ⟨r,aw,bi⟩:=h
       have bi:aF.s t' r=z:=bi
       subst bi
       obtain ⟨hu,ai⟩:=qn ao
       simp only [ar] at ad
       obtain ⟨A,c,ah⟩:=lb _ ad
       rw [ah] at ad
       obtain ⟨bg,bf,cc⟩:=ao6 ad aw
       have aJ:=Nat.eq_of_beq_eq_true ag
       subst aJ
       exact ⟨_,fun w'=>NJ hu ai av ah (sO ns I) (sO jP aa) (Pj aw).1 cc,by simp only [ar];exact bg⟩
     · exact h.elim
   · exact h.elim
 · rename_i p
   split at h
   · rename_i i j aj I aa
     obtain ⟨r,aw,bi⟩:=h
     have bi:aF.p (cl r)=z:=bi
     subst bi
     simp only [ar] at ad
     exact ⟨_,fun w'=>aFT (tI aj) av ad (sO ns I) (sO jP aa) aw,by simp only [ar]⟩
   · exact h.elim
 · rename_i i g
   split at h
   · rename_i e n t' bG k l ao cR
     rw [cW] at cR
     split at h
     · rename_i p q I aa ag
       simp only [Bool.and_eq_true] at ag
       obtain ⟨r,aw,bi⟩:=h
       have bi:aF.v i g p q=z:=bi
       subst bi
       obtain ⟨hu,ai⟩:=qn ao
       simp only [ar] at ad
       obtain ⟨_,aM,bk,bF,b1⟩:=ad
       rw [cR] at bF b1
       have ju:=b1 (Nat.eq_of_beq_eq_true ag.1)
       obtain ⟨A,c,xs,ak,al,aV⟩:=hm.ok i _ _ cR bk
       rw [ak] at ju al
       obtain ⟨a1,v1,v2⟩:=agz aw
       have aJ:=Nat.eq_of_beq_eq_true ag.2
       subst aJ
       refine ⟨_,fun w'=>NJ hu ai av ju (sO ns I) (sO jP aa) ⟨a1,v1,v2⟩ (Mg al),?_⟩
       simp only [ar]
       have dl:A=A.map (·.add (0 *(E.T.ty t').size)):=by
        cases A <;> simp [Addr.add]
       refine ⟨trivial,aM,bk,by rw [cR];exact bF,fun _=>⟨A,_,c,_,ak,a1,v1,v2,rfl,fun e=>?_,fun e=>?_⟩⟩
       · subst e
         split
         · rfl
         · exact dl.symm
       · rw [if_neg (by have:=Mg al;omega),cR];rfl
     · exact h.elim
   · exact h.elim
 · rename_i i g p q
   split at h
   · rename_i e n t' bG k l ao cR
     rw [cW] at cR
     split at h
     · rename_i s r I aa ag
       simp only [Bool.and_eq_true] at ag
       obtain ⟨_,aw,bi⟩:=h
       have bi:aF.v i g (p+s) (p+r)=z:=bi
       subst bi
       obtain ⟨hu,ai⟩:=qn ao
       simp only [ar] at ad
       obtain ⟨_,aM,bk,bF,b1⟩:=ad
       rw [cR] at bF b1
       obtain ⟨cj,eU,bH,B,dg,pV,l1,cB,ju,Kb,bO⟩:=b1 (Nat.eq_of_beq_eq_true ag.1)
       obtain ⟨A,c,xs,ak,al,aV⟩:=hm.ok i _ _ cR bk
       rw [ak] at dg al
       simp only [Value.slice.injEq] at dg
       obtain ⟨rfl,rfl,rfl⟩:=dg
       have ra:=Mg al
       obtain ⟨a1,v1,v2⟩:=agz aw
       have aJ:=Nat.eq_of_beq_eq_true ag.2
       subst aJ
       have abi:=sO jP aa
       rw [show q - p=((q.toNat - p.toNat:Nat):Int) by omega] at abi
       refine ⟨_,fun w'=>NJ hu ai av ju (sO ns I) abi ⟨a1,v1,by omega⟩ (by omega),?_⟩
       simp only [ar]
       have F1:(p+s).toNat=p.toNat+s.toNat:=by omega
       have jS:(p+r).toNat=p.toNat+r.toNat:=by omega
       refine ⟨trivial,aM,bk,by rw [cR];exact bF,fun _=>⟨A,_,c,(if c - p.toNat=s.toNat then B else B.map (·.add (s.toNat*(E.T.ty t').size))),ak,by omega,by omega,by omega,?_,fun e=>?_,fun e=>?_⟩⟩
       · rw [F1,jS,show p.toNat+r.toNat - (p.toNat+s.toNat)=r.toNat - s.toNat by omega,show c - p.toNat - s.toNat=c - (p.toNat+s.toNat) by omega]
       · have R1:p= 0 :=by omega
         have zL:s= 0 :=by omega
         subst R1;subst zL
         rw [Kb rfl]
         split
         · rfl
         · cases A <;> simp [Addr.add]
       · obtain ⟨dV,rfl⟩:=Dn al (by omega)
         rw [if_neg (by omega),bO (by omega),cR]
         simp [j9,iz,F1,Nat.add_mul]
     · exact h.elim
   · exact h.elim
 · split at h
   · rename_i e ao ag
     have h:aF.p (.slice none 0 0)=z:=h
     subst h
     simp only [Bool.and_eq_true] at ag
     obtain ⟨hu,ai⟩:=qn ao
     simp only [ar] at ad
     exact ⟨_,fun w'=>aFS hu ai av ad (NU ns ag.1) ((NU jP ag.2).imp (fun h=>⟨h.1,rfl⟩) id),by simp only [ar]⟩
   · exact h.elim
 · exact h.elim
end
end bn
namespace bn
open Go Go.RowKit au J
def rH {cI β:Type} (K:hW cI) (d:List (cI × β)) (k:cI):Option β:=@dI cI β K.dec d k
def i' {cI β:Type} (K:hW cI) (d:List (cI × β)) (k:cI):Option Nat:=@nG cI β K.dec d k
def rI {cI β:Type} (K:hW cI) (d:List (cI × β)) (k:cI) (v:β):List (cI × β):=@hg cI β K.dec d k v
abbrev hW.enc {cI:Type} (K:hW cI):cI->Value:=@kJ.enc cI K.dec K.pU
abbrev hW.desc {cI:Type} (K:hW cI):TypeDesc:=@kJ.desc cI K.dec K.pU
section
variable {T:bT} {F:Nat->Prop} {w:World} {kt vt:Nat} {K:hW (T.El kt)}
theorem P4 (k:T.El kt):∀ {es:List MapEntry} {d:List (T.El kt × T.El vt)} (i:Nat),iO T F w K es d ->
 (rH K d k=none/\i' K d k=none/\Instr.findNow K.desc (K.enc k) es i=some none)\/(∃ p x v,rH K d k=some x/\i' K d k=some p/\zf T F w vt x v/\Instr.findNow K.desc (K.enc k) es i=some (some (i+p,v)))
 | [],[],i,_=>.inl ⟨rfl,rfl,rfl⟩
 | [],_::_,_,h=>h.elim
 | _::_,[],_,h=>h.elim
 | e::es,p::d,i,h=>by
   obtain ⟨I,aa,aw⟩:=h
   have ao:Instr.sameNow K.desc (K.enc k) e.key=some (@decide (p.1 =k) (K.dec p.1 k)):=by rw [I];exact @kJ.same _ K.dec K.pU k p.1
   by_cases aN:p.1 =k
   · right
     refine ⟨0,p.2,e.val,?_,?_,aa,?_⟩
     · simp only [rH,dI,if_pos aN]
     · simp only [i',nG,if_pos aN]
     · simp only [Instr.findNow,ao,aN,decide_true,Nat.add_zero]
   · have ak:Instr.findNow K.desc (K.enc k) (e::es) i=Instr.findNow K.desc (K.enc k) es (i+ 1):=by simp only [Instr.findNow,ao,aN,decide_false]
     rcases P4 k (i+ 1) aw with ⟨bk,bF,b1⟩ | ⟨q,x,v,bk,bF,b1,gy⟩
     · left
       refine ⟨?_,?_,by rw [ak];exact b1⟩
       · simp only [rH,dI,if_neg aN];exact bk
       · simp only [i',nG,if_neg aN]
         simp only [i'] at bF
         rw [bF];rfl
     · right
       refine ⟨q+ 1,x,v,?_,?_,b1,?_⟩
       · simp only [rH,dI,if_neg aN];exact bk
       · simp only [i',nG,if_neg aN]
         simp only [i'] at bF
         rw [bF];rfl
       · rw [ak,gy,show i+ 1 +q=i+(q+ 1) by omega]
theorem iO.len:∀ {es:List MapEntry} {d:List (T.El kt × T.El vt)},iO T F w K es d->es.length=d.length
 | [],[],_=>rfl
 | [],_::_,h=>h.elim
 | _::_,[],h=>h.elim
 | _::_,_::_,h=>by simp [iO.len h.2.2]
theorem Vr {P:Program} {es:Array MapEntry} {d:List (T.El kt × T.El vt)} {t:Nat} (k:T.El kt) (aj:P.underlying t=some K.desc) (he:iO T F w K es.toList d) (w':World) :
 (rH K d k=none/\i' K d k=none/\(Instr.findKey t (K.enc k) es.toList).run P w'= .ok none w')\/(∃ p x v,rH K d k=some x/\i' K d k=some p/\zf T F w vt x v/\(Instr.findKey t (K.enc k) es.toList).run P w'= .ok (some (p,v)) w'):=by
 rcases P4 k 0 he with ⟨I,aa,aw⟩ | ⟨p,x,v,I,aa,aw,bi⟩
 · left
   refine ⟨I,aa,?_⟩
   simp only [Instr.findKey,Sem.run_bind,run_underlying aj,Result.andThen_ok,aw]
   rfl
 · right
   refine ⟨p,x,v,I,aa,aw,?_⟩
   simp only [Instr.findKey,Sem.run_bind,run_underlying aj,Result.andThen_ok,bi,Nat.zero_add]
   rfl
end
def Ju:Option TypeDesc->TypeDesc->Bool
 | some (.int k),.int k'=>lL k k'
 | some .string,.string=>true
 | _,_=>false
theorem Zh {o:Option TypeDesc} {d:TypeDesc} (h:Ju o d=true):o=some d:=by
 unfold Ju at h
 split at h
 · rw [nz h]
 · rfl
 · cases h
def XM:Value->Bool->Bool
 | .agg _,b=>b
 | _,b=>!b
def Ed (P:Program) (t:TypeId):Option Value:=match P.info? t with
 | some i=>i.zero
 | none=>none
theorem aGi {P:Program} {t:TypeId} {z:Value} (h:Ed P t=some z):∀ w,(zeroValue t).run P w= .ok z w:=by
 unfold Ed at h
 split at h
 · rename_i i I
   intro w
   simp only [zeroValue,typeInfo,Sem.run_bind]
   simp [go_sem,I,h]
 · cases h
theorem ajS {z:Value} {b:Bool} (h:XM z b=true):z=w_ b z.cells.toList:=by
 unfold XM at h
 split at h
 · rename_i cs
   subst h
   obtain ⟨vs⟩:=cs
   rfl
 · rename_i ai
   have ag:b=false:=by simpa using h
   subst ag
   cases z <;> first | rfl | exact (ai _ rfl).elim
def u4 (E:Env) (vt EV:Nat):Option (E.T.El vt):=match Ed E.P EV with
 | some z=>match XM z (E.T.e vt).agg with
   | true=>(E.T.e vt).gT (z.cells.toList.map .p)
   | false=>none
 | none=>none
def mapOf (P:Program) (t:TypeId):Option (Nat × Nat):=match P.underlying t with
 | some (.map k e)=>some (k,e)
 | _=>none
theorem S7 {P:Program} {t k e:Nat} (h:mapOf P t=some (k,e)):P.underlying t=some (.map k e):=by
 unfold mapOf at h
 split at h
 · rename_i I
   simp only [Option.some.injEq,Prod.mk.injEq] at h
   obtain ⟨rfl,rfl⟩:=h
   exact I
 · cases h
def K6 {El:Nat->Type} (bl:List (aC El)):aF El->Option (Σ KT:Nat × Nat,List (El KT.1 × El KT.2))
 | .m i=>match nth bl i with
   | some (.m kt vt d)=>some ⟨(kt,vt),d⟩
   | _=>none
 | .n kt vt d=>some ⟨(kt,vt),d⟩
 | _=>none
def CW (E:Env) (ok:Bool) {kt vt:Nat} (K:hW (E.T.El kt)) (d:List (E.T.El kt × E.T.El vt)) (k:E.T.El kt) (z:E.T.El vt):aF E.T.El:=match ok with
 | true=>.u [E.T.val vt ((rH K d k).getD z),.p (.bool (rH K d k).isSome)]
 | false=>E.T.val vt ((rH K d k).getD z)
def PP (E:Env) (bl:List (aC E.T.El)) (t:Nat) (ok:Bool) (u v:aF E.T.El):D (aF E.T.El):=match mapOf E.P t,K6 bl u with
 | some (k,e),some ⟨(kt,vt),d⟩=>match (E.T.e kt).key with
   | some K=>match Ju (E.P.underlying k) K.desc,(E.T.e kt).gT (cellsOf v),u4 E vt e,(match kn v with | true=>(E.T.e kt).agg | false=>!(E.T.e kt).agg) with
     | true,some key,some z,true=>.ok (CW E ok K d key z)
     | _,_,_,_=>.no
   | none=>.no
 | _,_=>.no
section
variable {E:Env} {W w:World} {M0:List Nat} {X:Nat->Prop} {bl:List (aC E.T.El)} {ρ:List Value} {a:Act}
def Al {El:Nat->Type}:aF El->Option Nat
 | .m i=>some i
 | _=>none
theorem adt (hm:Mem E.T W M0 X bl ρ w) {u:aF E.T.El} {v:Value} {kt vt:Nat} {d:List (E.T.El kt × E.T.El vt)} (h:K6 bl u=some ⟨(kt,vt),d⟩) (ah:ar E.T (bh X bl ρ w) w ρ bl u v) :
 ∃ r,v= .map (some r)/\vf E.T (bh X bl ρ w) w kt vt r d/\IU X bl ρ w r (Al u):=by
 cases u <;> simp only [K6,reduceCtorEq] at h
 · rename_i i
   split at h
   · rename_i ava aCd d' hi
     simp only [Option.some.injEq,Sigma.mk.injEq,Prod.mk.injEq] at h
     obtain ⟨⟨rfl,rfl⟩,h⟩:=h
     have h:=eq_of_heq h
     subst h
     rw [cW] at hi
     simp only [ar] at ah
     obtain ⟨r,I,rfl⟩:=ah
     obtain ⟨eV,ak,al⟩:=hm.ok i _ _ hi I
     simp only [Value.map.injEq,Option.some.injEq] at ak
     subst ak
     exact ⟨r,rfl,al,_,_,hi,I,by simp [bA,ag]⟩
   · cases h
 · rename_i ava aCd d'
   simp only [Option.some.injEq,Sigma.mk.injEq,Prod.mk.injEq] at h
   obtain ⟨⟨rfl,rfl⟩,h⟩:=h
   have h:=eq_of_heq h
   subst h
   simp only [ar] at ah
   obtain ⟨r,rfl,I,aa⟩:=ah
   exact ⟨r,rfl,aa,I⟩
theorem OY {F:Nat->Prop} {u:aF E.T.El} {v:Value} {b:Bool} (ah:ar E.T F w ρ bl u v) (h:(match kn u with | true=>b | false=>!b)=true):v=w_ b v.cells.toList:=by
 cases aK:kn u with
 | true=>
   rw [aK] at h
   have h:b=true:=h
   subst h
   exact F6 aK ah
 | false=>
   rw [aK] at h
   have h:b=false:=by simpa using h
   subst h
   have hc:=nf ah
   have:v.cells.toList= [v]:=by
    cases u with
    | p u=>
      simp only [ar] at ah
      subst ah
      cases v <;> first | rfl | (simp [kn] at aK)
    | a l=>simp [kn] at aK
    | b i o=>simp only [ar] at ah;obtain ⟨g,_,rfl⟩:=ah;rfl
    | x t d o=>simp only [ar] at ah;obtain ⟨_,_,_,rfl,_⟩:=ah;rfl
    | s t l=>simp only [ar] at ah;obtain ⟨A,c,e⟩:=lb _ ah;subst e;rfl
    | q t l=>simp only [ar] at ah;obtain ⟨_,A,rfl⟩:=ah;rfl
    | r i g=>simp only [ar] at ah;exact Jm ah.1
    | v i g lo hi=>simp only [ar] at ah;exact Jm ah.1
    | e i g k t j d o=>simp only [ar] at ah;exact Jl ah.1
    | w i g o=>simp only [ar] at ah;exact Jl ah.1
    | m i=>simp only [ar] at ah;obtain ⟨g,_,rfl⟩:=ah;rfl
    | n _ _ _=>simp only [ar] at ah;obtain ⟨g,rfl,_⟩:=ah;rfl
    | f fn cs=>simp only [ar] at ah;obtain ⟨g,rfl,_⟩:=ah;rfl
    | h fn us=>simp only [ar] at ah;obtain ⟨g,rfl,_⟩:=ah;rfl
    | u l=>simp only [ar] at ah;obtain ⟨g,rfl,_⟩:=ah;rfl
    | i t z=>simp only [ar] at ah;obtain ⟨g,rfl,_⟩:=ah;rfl
    | pp i g sz eh=>simp only [ar] at ah;obtain ⟨_,_,rfl,_⟩:=ah;rfl
    | xg i g sz q=>simp only [ar] at ah;obtain ⟨_,_,_,rfl,_⟩:=ah;rfl
   rw [this];rfl
theorem agx (a3:c8 E) {F:Nat->Prop} {vt:Nat} {x:E.T.El vt} {v:Value} (h:zf E.T F w vt x v):ar E.T F w ρ bl (E.T.val vt x) v:=by
 obtain ⟨xs,I,rfl⟩:=h
 exact a3.tb.val I
theorem val_zero (a3:c8 E) {F:Nat->Prop} {vt EV:Nat} {z:E.T.El vt} (h:u4 E vt EV=some z):∃ eK,(∀ w,(zeroValue EV).run E.P w= .ok eK w)/\ar E.T F w ρ bl (E.T.val vt z) eK:=by
 unfold u4 at h
 split at h
 · rename_i eK I
   split at h
   · rename_i aa
     refine ⟨eK,aGi I,?_⟩
     have:=a3.tb.gT _ _ _ h F w ρ bl _ (ql eK.cells.toList)
     rw [ajS aa]
     have ah:=a3.tb.val (ρ:=ρ) (bl:=bl) this
     exact ah
   · cases h
 · cases h
theorem aq2 (a3:c8 E) (hm:Mem E.T W M0 X bl ρ w) {o:Oper} {t:Nat} {ok:Bool} {x y:Operand} {u v z:aF E.T.El} (h:(PP E bl t ok u v).out z) (av:o.op= .lookup t x y ok)
 (ad:ar E.T (bh X bl ρ w) w ρ bl u (a.eval x)) (hy:ar E.T (bh X bl ρ w) w ρ bl v (a.eval y)) :
 ∃ r q,ar E.T (bh X bl ρ w) w ρ bl z r/\IU X bl ρ w q (Al u)/\ ∀ w',w'.heap[q]? =w.heap[q]? ->bb E.P o a w' r w':=by
 unfold PP at h
 split at h
 · rename_i k e kt vt d I aa
   split at h
   · rename_i K cG
     split at h
     · rename_i key hU aM RN ai s8
       have h:CW E ok K d key hU=z:=h
       subst h
       obtain ⟨q,CE,⟨X9,zw,es,fB,ey,hE,p5⟩,wj⟩:=adt hm aa ad
       rw [cG] at zw
       cases zw
       have FG:a.eval y=K.enc key:=by
        have ak:=a3.tb.gT _ _ _ RN _ _ _ _ _ (nf hy)
        have al:=a3.tb.key _ _ cG _ _ _ _ ak
        exact (OY hy s8).trans al
       have hu:=S7 I
       have ts:=Zh aM
       obtain ⟨eK,mF,ack⟩:=val_zero a3 (w:=w) (F:=bh X bl ρ w) (ρ:=ρ) (bl:=bl) ai
       have afv:∀ w',w'.heap[q]? =w.heap[q]? ->(Instr.lookup t (.map (some q)) (K.enc key) ok).run E.P w'=(do
        let (v,ax2) <-match <-Instr.findKey k (K.enc key) es.toList with
         | some (_,v)=>pure (v,true)
         | none=>pure (<-zeroValue e,false)
        pure (if ok then Value.tuple #[v,.bool ax2] else v):Sem Value).run E.P w':=fun w' hw=>by
        simp only [Instr.lookup,Sem.run_bind,Sem.run_pure,run_underlying hu,Result.andThen_ok,MapKept.run_getObj_map (hw.trans ey),@kJ.check _ K.dec K.pU E.P w' es.isEmpty k key ts]
        rfl
       rcases Vr (vt:=vt) key ts hE w with ⟨f1,f2,_⟩ | ⟨p,ajz,DC,f1,f2,f3,f6⟩
       · refine ⟨if ok then .tuple #[eK,.bool false] else eK,q,?_,wj,fun w' hw=>?_⟩
         · cases ok with
           | true=>simp only [CW,f1,Option.getD_none,Option.isSome_none,ar,if_true];exact ⟨[eK,.bool false],rfl,by simp only [a4];exact ⟨_,_,rfl,ack,_,_,rfl,by simp only [ar],rfl⟩⟩
           | false=>simp only [CW,f1,Option.getD_none];exact ack
         · simp only [bb,execOp,av,CE,FG,Sem.run_bind,afv w' hw]
           rcases Vr (vt:=vt) key ts hE w' with ⟨_,_,f4⟩ | ⟨p,ajz,DC,dC,_⟩
           · simp only [f4,Result.andThen_ok,Sem.run_bind,mF,Sem.run_pure]
           · rw [f1] at dC;cases dC
       · refine ⟨if ok then .tuple #[DC,.bool true] else DC,q,?_,wj,fun w' hw=>?_⟩
         · cases ok with
           | true=>simp only [CW,f1,Option.getD_some,Option.isSome_some,ar,if_true];exact ⟨[DC,.bool true],rfl,by simp only [a4];exact ⟨_,_,rfl,agx a3 f3,_,_,rfl,by simp only [ar],rfl⟩⟩
           | false=>simp only [CW,f1,Option.getD_some];exact agx a3 f3
         · simp only [bb,execOp,av,CE,FG,Sem.run_bind,afv w' hw]
           have f5:∀ w',(Instr.findKey k (K.enc key) es.toList).run E.P w'= .ok (some (p,DC)) w':=by
            intro w'
            rcases P4 (vt:=vt) key 0 hE with ⟨dC,_⟩ | ⟨rV,gl,e4,dC,bG,fK,iT⟩
            · rw [f1] at dC;cases dC
            · have:(Instr.findKey k (K.enc key) es.toList).run E.P w= .ok (some (rV,e4)) w:=by
               simp only [Instr.findKey,Sem.run_bind,run_underlying ts,Result.andThen_ok,iT,Nat.zero_add]
               rfl
              rw [f6] at this
              simp only [Result.ok.injEq,Option.some.injEq,Prod.mk.injEq,and_true] at this
              obtain ⟨rfl,rfl⟩:=this
              simp only [Instr.findKey,Sem.run_bind,run_underlying ts,Result.andThen_ok,iT,Nat.zero_add]
              rfl
           simp only [f5,Result.andThen_ok,Sem.run_bind,Sem.run_pure]
     · exact h.elim
   · exact h.elim
 · exact h.elim
def PO (E:Env) (bl:List (aC E.T.El)) (t:Nat) (u:aF E.T.El):D (aF E.T.El):=match mapOf E.P t,K6 bl u with
 | some _,some ⟨_,d⟩=>.ok (.p (.int .i64 (d.length:Int)))
 | _,_=>.no
theorem aqZ (hm:Mem E.T W M0 X bl ρ w) {o:Oper} {t:Nat} {x:Operand} {u z:aF E.T.El} (h:(PO E bl t u).out z) (av:o.op= .call { callee:=.builtin .len,args:=#[x],argTypes:=#[t] })
 (ad:ar E.T (bh X bl ρ w) w ρ bl u (a.eval x)):∃ r q,ar E.T (bh X bl ρ w) w ρ bl z r/\IU X bl ρ w q (Al u)/\ ∀ w',w'.heap[q]? =w.heap[q]? ->bb E.P o a w' r w':=by
 unfold PO at h
 split at h
 · rename_i F8 KT d I aa
   have h:aF.p (.int .i64 (d.length:Int))=z:=h
   subst h
   obtain ⟨q,CE,⟨K,cG,es,fB,ey,hE,p5⟩,wj⟩:=adt hm aa ad
   have hu:=S7 I
   have aq:es.size=d.length:=by have:=hE.len;simpa using this
   refine ⟨.int .i64 (d.length:Int),q,by simp only [ar],wj,fun w' hw=>?_⟩
   simp only [bb,execOp,av,resolve,invoke,List.map_toArray,List.map_cons,List.map_nil,CE]
   simp [go_sem,Builtin.len_,run_underlying hu,goInt,MapKept.run_getObj_map (hw.trans ey),aq]
 · exact h.elim
def PS (E:Env) (t j:Nat) (u:aF E.T.El):D (aF E.T.El):=match kn u,JT E.P t j with
 | true,some (off,oo,_)=>match lay E.P oo with
   | some gH=>.of (lv (cellsOf u) off gH)
   | none=>.no
 | _,_=>.no
theorem aq5 {F:Nat->Prop} {o:Oper} {t j:Nat} {x:Operand} {u z:aF E.T.El} (h:(PS E t j u).out z) (av:o.op= .field t x j) (ad:ar E.T F w ρ bl u (a.eval x)):∃ r,j3 E.P o a r/\ar E.T F w ρ bl z r:=by
 unfold PS at h
 split at h
 · rename_i off oo sz s8 af
   split at h
   · rename_i gH aq
     have h:=D.nL h
     obtain ⟨ca,f,bg,bf,cc,da,ny,wv⟩:=aaP af
     have ah:=F6 s8 ad
     have hc:=nf ad
     obtain ⟨b,n⟩:=gH
     have zI:=Gc aq
     subst da;subst cc
     cases b with
     | false=>
       simp only [lv] at h
       rw [cW] at h
       obtain ⟨v,I,aa⟩:=hc.at_ h
       have Cl:(a.eval x).cells[f.offset]? =some v:=by rw [<-Array.getElem?_toList];exact I
       refine ⟨v,fun w'=>?_,aa⟩
       simp only [bb,execOp,av,Instr.field,Sem.run_bind,run_underlying bg,Result.andThen_ok,bf]
       rw [ah]
       simp [asAgg,part,zI.1,Cl]
     | true=>
       simp only [lv] at h
       split at h
       · rename_i ag
         simp only [Option.some.injEq] at h
         subst h
         have hle:=Nat.le_of_ble_eq_true ag
         have hlen:=hc.len
         refine ⟨.agg ⟨((a.eval x).cells.toList.drop f.offset).take n⟩,fun w'=>?_,?_⟩
         · simp only [bb,execOp,av,Instr.field,Sem.run_bind,run_underlying bg,Result.andThen_ok,bf]
           rw [ah]
           simp only [asAgg,part,Sem.run_bind,Sem.run_pure,zI.1,zI.2,Result.andThen_ok,if_true]
           congr 2
           apply congrArg Value.agg
           rw [<-Array.toList_inj]
           simp [List.extract_eq_take_drop,Nat.add_sub_cancel_left,Value.cells]
         · simp only [ar]
           exact ⟨_,rfl,a4.take n (a4.drop _ hc)⟩
       · cases h
   · exact h.elim
 · exact h.elim
end
end bn
namespace bn
open Go Go.RowKit au J
structure cu (El:Nat->Type) where
 fr:List (Nat × aF El)
 gs:List (Nat × Nat × Bool × aF El)
 eb:List (Nat × Bool)
def CU {El:Nat->Type}:List (Nat × Nat × Bool × aF El)->List (Nat × Bool)->Nat->Option (aF El)
 | [],_,_=>none
 | p::r,cur,t=>match Nat.beq p.1 t && zz cur p.2.1 p.2.2.1 with
   | true=>some p.2.2.2
   | false=>CU r cur t
def xi {El:Nat->Type}:List (Nat × Nat × Bool × aF El)->Nat->List (Nat × Nat × Bool × aF El)
 | [],_=>[]
 | p::r,d=>match Nat.beq p.1 d || Nat.beq p.2.1 d with
   | true=>xi r d
   | false=>p::xi r d
structure m6 (T:bT) (F:Nat->Prop) (w:World) (ρ:List Value) (bl:List (aC T.El)) (n:cE) (f:cu T.El) (a:Act):Prop where
 e7:pc T F w ρ bl n f.fr a
 gs:∀ p ∈ f.gs,a.tmps.getD p.2.1 undef= .bool p.2.2.1 ->ar T F w ρ bl p.2.2.2 (a.tmps.getD p.1 undef)
 eb:∀ p ∈ f.eb,a.tmps.getD p.1 undef= .bool p.2
section
variable {T:bT} {F F':Nat->Prop} {w w':World} {ρ ρ':List Value} {bl bl':List (aC T.El)} {n:cE} {f:cu T.El} {a:Act}
theorem m6.later (aD:∀ k,F k->F' k/\w'.heap[k]? =w.heap[k]?) (aq:ll T ρ ρ' bl bl') (h:m6 T F w ρ bl n f a):m6 T F' w' ρ' bl' n f a:=⟨h.e7.later aD aq,fun p aN ag=>(h.gs p aN ag).later aD aq,h.eb⟩
theorem S2 (h:m6 T F w ρ bl n f a) {cur:List (Nat × Bool)} (hc:iS a cur):∀ {gs:List (Nat × Nat × Bool × aF T.El)} {t:Nat} {y:aF T.El},(∀ p ∈ gs,p ∈ f.gs)->CU gs cur t=some y->ar T F w ρ bl y (a.tmps.getD t undef)
 | [],_,_,_,aa=>by simp [CU] at aa
 | p::r,t,y,I,aa=>by
   simp only [CU] at aa
   split at aa
   · rename_i ag
     simp only [Bool.and_eq_true,Option.some.injEq] at ag aa
     subst aa
     have:=h.gs p (I p (by simp)) (abB hc ag.2)
     rwa [Nat.eq_of_beq_eq_true ag.1] at this
   · exact S2 h hc (fun q aT=>I q (by simp [aT])) aa
theorem Vo {d:Nat} {p:Nat × Nat × Bool × aF T.El}:∀ {gs:List (Nat × Nat × Bool × aF T.El)},p ∈ xi gs d->p ∈ gs/\p.1 ≠d/\p.2.1 ≠d
 | [],h=>by simp [xi] at h
 | q::r,h=>by
   simp only [xi] at h
   split at h
   · obtain ⟨I,aa⟩:=Vo h;exact ⟨by simp [I],aa⟩
   · rename_i ag
     simp only [Bool.or_eq_false_iff] at ag
     rcases List.mem_cons.1 h with rfl | h
     · exact ⟨by simp,fun e=>by rw [e] at ag;simp at ag,fun e=>by rw [e] at ag;simp at ag⟩
     · obtain ⟨I,aa⟩:=Vo h;exact ⟨by simp [I],aa⟩
theorem Vn {α:Type} {d:Nat} {p:Nat × α}:∀ {l:List (Nat × α)},p ∈ mT l d->p ∈ l/\p.1 ≠d
 | [],h=>by simp [mT] at h
 | q::r,h=>by
   simp only [mT] at h
   split at h
   · obtain ⟨I,aa⟩:=Vn h;exact ⟨by simp [I],aa⟩
   · rename_i ag
     rcases List.mem_cons.1 h with rfl | h
     · exact ⟨by simp,fun e=>by rw [e] at ag;simp at ag⟩
     · obtain ⟨I,aa⟩:=Vn h;exact ⟨by simp [I],aa⟩
def cu.put (f:cu T.El) (d:Nat) (y:aF T.El):cu T.El:=⟨(d,y)::mT f.fr d,xi f.gs d,mT f.eb d⟩
def cu.oQ (f:cu T.El) (d j:Nat) (b:Bool) (y:aF T.El):cu T.El:=⟨mT f.fr d,(d,j,b,y)::xi f.gs d,mT f.eb d⟩
theorem m6.aex {d:Nat} {v:Value} (h:m6 T F w ρ bl n f a) (aM:Nat.blt d n.n=true):(∀ p ∈ xi f.gs d,(a.put (some d) v).tmps.getD p.2.1 undef= .bool p.2.2.1 ->ar T F w ρ bl p.2.2.2 ((a.put (some d) v).tmps.getD p.1 undef))/\ ∀ p ∈ mT f.eb d,(a.put (some d) v).tmps.getD p.1 undef= .bool p.2 :=by
 have bE:d <a.tmps.size:=by rw [h.e7.size];exact Nat.le_of_ble_eq_true aM
 refine ⟨fun p aN ag=>?_,fun p aN=>?_⟩
 · obtain ⟨I,aa,aw⟩:=Vo aN
   rw [v0 bE,if_neg (Ne.symm aw)] at ag
   rw [v0 bE,if_neg (Ne.symm aa)]
   exact h.gs p I ag
 · obtain ⟨I,aa⟩:=Vn aN
   rw [v0 bE,if_neg (Ne.symm aa)]
   exact h.eb p I
theorem m6.put {d:Nat} {y:aF T.El} {v:Value} (h:m6 T F w ρ bl n f a) (aM:Nat.blt d n.n=true) (ah:ar T F w ρ bl y v):m6 T F w ρ bl n (f.put d y) (a.put (some d) v):=by
 obtain ⟨I,aa⟩:=h.aex (v:=v) aM
 refine ⟨⟨(h.e7.put aM ah).size,(h.e7.put aM ah).defers,fun t z ai=>(h.e7.put aM ah).get t z ?_⟩,I,aa⟩
 simp only [cu.put,cJ] at ai ⊢
 split at ai
 · exact ai
 · exact (K3 ai).2
theorem m6.oQ {d j:Nat} {b:Bool} {y:aF T.El} {v:Value} (h:m6 T F w ρ bl n f a) (aM:Nat.blt d n.n=true) (b3:Nat.beq j d=false) (ah:a.tmps.getD j undef= .bool b->ar T F w ρ bl y v):m6 T F w ρ bl n (f.oQ d j b y) (a.put (some d) v):=by
 obtain ⟨I,aa⟩:=h.aex (v:=v) aM
 have bE:d <a.tmps.size:=by rw [h.e7.size];exact Nat.le_of_ble_eq_true aM
 have atl:d≠j:=fun e=>by subst e;simp at b3
 refine ⟨h.e7.Mf aM,fun p aN ag=>?_,aa⟩
 rcases List.mem_cons.1 aN with rfl | aN
 · simp only at ag ⊢
   rw [v0 bE,if_neg atl] at ag
   rw [v0 bE,if_pos rfl]
   exact ah ag
 · exact I p aN ag
end
def cS (E:Env) (bl:List (aC E.T.El)) (f:cu E.T.El) (cur:List (Nat × Bool)):Operand->Option (aF E.T.El)
 | .const v=>some (.p v)
 | .global g=>cJ E.cZ g
 | .func g=>some (.f (.func g) [])
 | .tmp t=>match cJ f.fr t with
   | some y=>some (nm bl y)
   | none=>match CU f.gs cur t with
     | some y=>some (nm bl y)
     | none=>match CU f.gs f.eb t with
       | some y=>some (nm bl y)
       | none=>none
def nJ (E:Env) (bl:List (aC E.T.El)) (f:cu E.T.El) (cur:List (Nat × Bool)):List Operand->Option (List (aF E.T.El))
 | []=>some []
 | x::r=>match cS E bl f cur x,nJ E bl f cur r with
   | some y,some ys=>some (y::ys)
   | _,_=>none
def Gz (E:Env) (bl:List (aC E.T.El)) (f:cu E.T.El) (cur:List (Nat × Bool)):Option Operand->Option (Option (aF E.T.El))
 | none=>some none
 | some x=>match cS E bl f cur x with
   | some y=>some (some y)
   | none=>none
def C4 (E:Env) (bl:List (aC E.T.El)) (f:cu E.T.El) (cur:List (Nat × Bool)):List (Nat × Operand)->Option (List (Nat × aF E.T.El))
 | []=>some []
 | (i,x)::r=>match cS E bl f cur x,C4 E bl f cur r with
   | some y,some ys=>some ((i,y)::ys)
   | _,_=>none
structure R (E:Env) (W:World) (M0:List Nat) (X:Nat->Prop) (n:cE) (f:cu E.T.El) (bl:List (aC E.T.El)) (ρ:List Value) (a:Act) (w:World):Prop where
 mem:Mem E.T W M0 X bl ρ w
 eD:m6 E.T (bh X bl ρ w) w ρ bl n f a
 cZ:∀ g y,cJ E.cZ g=some y->ar E.T (bh X bl ρ w) w ρ bl y (.pointer (some ⟨g,0,none⟩))
section
variable {E:Env} {W w w':World} {M0:List Nat} {X:Nat->Prop} {n:cE} {f:cu E.T.El} {bl bl':List (aC E.T.El)} {ρ ρ':List Value} {a:Act} {cur:List (Nat × Bool)}
theorem R.to (h:R E W M0 X n f bl ρ a w) (aO:To X bl bl' ρ ρ' w w') (hm:Mem E.T W M0 X bl' ρ' w'):R E W M0 X n f bl' ρ' a w':=⟨hm,h.eD.later aO.F aO.L,fun g y ax=>aO.v (h.cZ g y ax)⟩
theorem R.put {d:Nat} {y:aF E.T.El} {v:Value} (h:R E W M0 X n f bl ρ a w) (aM:Nat.blt d n.n=true) (ah:ar E.T (bh X bl ρ w) w ρ bl y v):R E W M0 X n (f.put d y) bl ρ (a.put (some d) v) w:=⟨h.mem,h.eD.put aM ah,h.cZ⟩
theorem Zc {a:Act}:∀ {l:List (Nat × Bool)},(∀ p ∈ l,a.tmps.getD p.1 undef= .bool p.2)->iS a l
 | [],_=>trivial
 | p::r,h=>⟨h p (by simp),Zc fun q aT=>h q (by simp [aT])⟩
theorem di (h:R E W M0 X n f bl ρ a w) (hc:iS a cur) {x:Operand} {y:aF E.T.El} (ad:cS E bl f cur x=some y):ar E.T (bh X bl ρ w) w ρ bl y (a.eval x):=by
 cases x with
 | const v=>simp only [cS,Option.some.injEq] at ad;subst ad;simp only [ar];rfl
 | global g=>exact h.cZ g y ad
 | func g=>simp only [cS,Option.some.injEq] at ad;subst ad;simp only [ar];exact ⟨[],rfl,by simp [a4]⟩
 | tmp t=>
   simp only [cS] at ad
   split at ad
   · rename_i z ai
     simp only [Option.some.injEq] at ad
     subst ad
     exact Lw h.mem (h.eD.e7.get t z ai)
   · split at ad
     · rename_i z ai
       simp only [Option.some.injEq] at ad
       subst ad
       exact Lw h.mem (S2 h.eD hc (fun p aN=>aN) ai)
     · split at ad
       · rename_i z ai
         simp only [Option.some.injEq] at ad
         subst ad
         exact Lw h.mem (S2 h.eD (Zc h.eD.eb) (fun p aN=>aN) ai)
       · cases ad
theorem Ax (h:R E W M0 X n f bl ρ a w) (hc:iS a cur):∀ {xs:List Operand} {ys:List (aF E.T.El)},nJ E bl f cur xs=some ys->a4 E.T (bh X bl ρ w) w ρ bl ys (xs.map a.eval)
 | [],ys,ad=>by simp only [nJ,Option.some.injEq] at ad;subst ad;simp [a4]
 | x::r,ys,ad=>by
   simp only [nJ] at ad
   split at ad
   · rename_i y dT I aa
     simp only [Option.some.injEq] at ad
     subst ad
     simp only [List.map_cons,a4]
     exact ⟨_,_,rfl,di h hc I,Ax h hc aa⟩
   · cases ad
theorem ad1 (h:R E W M0 X n f bl ρ a w) (hc:iS a cur) {x:Option Operand} {y:Option (aF E.T.El)} (ad:Gz E bl f cur x=some y):zc E (bh X bl ρ w) w ρ bl a x y:=by
 cases x with
 | none=>simp only [Gz,Option.some.injEq] at ad;subst ad;trivial
 | some x=>
   simp only [Gz] at ad
   split at ad
   · rename_i z ai
     simp only [Option.some.injEq] at ad
     subst ad
     exact di h hc ai
   · cases ad
theorem TD (h:R E W M0 X n f bl ρ a w) (hc:iS a cur):∀ {xs:List (Nat × Operand)} {ys:List (Nat × aF E.T.El)},C4 E bl f cur xs=some ys->pn E.T (bh X bl ρ w) w ρ bl ys (xs.map fun p=>(p.1,a.eval p.2))
 | [],ys,ad=>by simp only [C4,Option.some.injEq] at ad;subst ad;simp [pn]
 | (i,x)::r,ys,ad=>by
   simp only [C4] at ad
   split at ad
   · rename_i y dT I aa
     simp only [Option.some.injEq] at ad
     subst ad
     simp only [List.map_cons,pn]
     exact ⟨_,_,rfl,di h hc I,TD h hc aa⟩
   · cases ad
end
def PT (E:Env) (bl:List (aC E.T.El)) (f:cu E.T.El) (cur:List (Nat × Bool)) (c x y:Operand):D (aF E.T.El):=
 match cS E bl f cur c with
 | some (.p (.bool b))=>match E.fB,c with
   | true,_=>match b with
     | true=>.of (cS E bl f cur x)
     | false=>.of (cS E bl f cur y)
   | false,.tmp lc=>match cJ f.eb lc with
     | some true=>.of (cS E bl f cur x)
     | some false=>.of (cS E bl f cur y)
     | none=>match cS E bl f ((lc,true)::cur) x,cS E bl f ((lc,false)::cur) y with
       | some u,some v=>TT E x y b u v
       | _,_=>.no
   | false,_=>.no
 | _=>.no
def V3:IntKind->Int->Option Int
 | .i64,m=>some (aA m)
 | .u64,m=>some (DF m)
 | .u8,m=>some ((BT m).toNat:Int)
 | _,_=>none
def PI (P:Program) (s d:Nat):Value->Option Value
 | .int k m=>match jT (P.underlying s),jT (P.underlying d) with
   | some (.i j),some (.i k')=>match lL j k,V3 k' m with
     | true,some r=>some (.int k' r)
     | _,_=>none
   | _,_=>none
 | _=>none
def Qd (E:Env) (bl:List (aC E.T.El)) (t:Nat) (u:aF E.T.El) (hi oK:Option (aF E.T.El)):D (aF E.T.El):=match mW E.P t,Ec hi && Ec oK with
 | some (e,n),true=>match Nat.beq n (E.T.ty e).size with
   | true=>match u with
     | .s _ _=>.ok (.q e [])
     | .q _ _=>.ok (.q e [])
     | .r i g=>match Nat.beq g (q8 bl i) with
       | true=>.ok (.q e [])
       | false=>.no
     | .p (.slice none 0 0)=>.ok (.p (.slice none 0 0))
     | .p (.slice (some _) 0 _)=>.ok (.q e [])
     | _=>.no
   | false=>.no
 | _,_=>.no
def Tz {El:Nat->Type} (bl:List (aC El)):aF El->Bool
 | .s _ (_::_)=>true
 | .q _ (_::_)=>true
 | .p (.slice (some _) _ _)=>true
 | .r i g=>match nth bl i with
   | some (.r _ bG _ (_::_))=>Nat.beq g bG
   | _=>false
 | _=>false
def Lv {El:Nat->Type}:aF El->Bool
 | .p (.slice none _ _)=>true
 | _=>false
def PR (P:Program) {El:Nat->Type} (bl:List (aC El)) (t:Nat) (op:BinOp) (u v:aF El):Option Bool:=match jT (P.underlying t),Lv v,Au op true with
 | some .ck,true,some b=>match Lv u with
   | true=>some b
   | false=>match Tz bl u with
     | true=>some (!b)
     | false=>none
 | _,_,_=>none
def Cb (E:Env) (bl:List (aC E.T.El)) (f:cu E.T.El) (cur:List (Nat × Bool)):Op->D (aF E.T.El)
 | .move x=>.of (cS E bl f cur x)
 | .assign x=>.of (cS E bl f cur x)
 | .pick c x y=>PT E bl f cur c x y
 | .binOp op t x y _=>match cS E bl f cur x,cS E bl f cur y with
   | some u,some v=>match PR E.P bl t op u v with
     | some b=>.ok (.p (.bool b))
     | none=>PD E t op (F7 y) u v
   | _,_=>.no
 | .unOp .not _ x=>match cS E bl f cur x with
   | some (.p (.bool p))=>.ok (.p (.bool (!p)))
   | _=>.no
 | .unOp .neg _ x=>match cS E bl f cur x with
   | some (.p (.int .i64 m))=>.ok (.p (.int .i64 (aA (0 - m))))
   | _=>.no
 | .convert s d x=>match cS E bl f cur x with
   | some (.p u)=>match PI E.P s d u with
     | some r=>.ok (.p r)
     | none=>.no
   | _=>.no
 | .load t x=>match cS E bl f cur x with
   | some p=>Ca E bl t p
   | none=>.no
 | .fieldAddr s x j=>match cS E bl f cur x,JT E.P s j with
   | some p,some (off,_,_)=>match LO (q8 bl) p with
     | true=>.of (TY p off)
     | false=>.no
   | _,_=>.no
 | .nilCheck x=>match cS E bl f cur x with
   | some p=>match KO p with
     | true=>.ok p
     | false=>.no
   | none=>.no
 | .extract x i=>match cS E bl f cur x with
   | some (.u l)=>.of (nth l i)
   | _=>.no
 | .makeFunc fn ⟨[]⟩ ⟨ys⟩=>match nJ E bl f cur ys with
   | some us=>.ok (.f fn us)
   | none=>.no
 | .makeFunc fn ⟨xs⟩ ⟨[]⟩=>match nJ E bl f cur xs with
   | some us=>.ok (.h fn us)
   | none=>.no
 | .makeInterface t x=>match cS E bl f cur x,E.P.concrete t with
   | some y,true=>.ok (.i t y)
   | _,_=>.no
 | .indexAddr t x y=>match cS E bl f cur x,cS E bl f cur y with
   | some u,some v=>PJ E bl t u v
   | _,_=>.no
 | .index t x y=>match cS E bl f cur x,cS E bl f cur y,jT (E.P.underlying t) with
   | some (.p (.string ⟨⟨p⟩⟩)),some (.p (.int .i64 j)),some .s=>.op (idx p j) fun b=>.ok (.p (.int .u8 (b.toNat:Int)))
   | _,_,_=>.no
 | .slice t x lo hi none=>match cS E bl f cur x,Gz E bl f cur lo,Gz E bl f cur hi with
   | some u,some a,some b=>PH E bl t u a b
   | _,_,_=>.no
 | .slice t x none (some hi) (some oK)=>match cS E bl f cur x,cS E bl f cur hi,cS E bl f cur oK with
   | some u,some a,some b=>Qd E bl t u (some a) (some b)
   | _,_,_=>.no
 | .lookup t x y ok=>match cS E bl f cur x,cS E bl f cur y with
   | some u,some v=>PP E bl t ok u v
   | _,_=>.no
 | .field t x j=>match cS E bl f cur x with
   | some u=>PS E t j u
   | none=>.no
 | .build t ⟨ps⟩=>match C4 E bl f cur ps with
   | some ys=>PE E t ys
   | none=>.no
 | .call ⟨.builtin .len,⟨[x]⟩,⟨[t]⟩⟩=>match cS E bl f cur x with
   | some u=>match mapOf E.P t with
     | some _=>PO E bl t u
     | none=>PN E bl t u
   | none=>.no
 | .call ⟨.builtin .cap,⟨[x]⟩,⟨[t]⟩⟩=>match mW E.P t,cS E bl f cur x with
   | some _,some (.p (.slice _ _ c))=>.ok (.p (.int .i64 (c:Int)))
   | _,_=>.no
 | _=>.no
def oG (E:Env) (bl:List (aC E.T.El)) (f:cu E.T.El) (cur:List (Nat × Bool)):Op->Option (Option Nat)
 | .load _ x=>match cS E bl f cur x with
   | some p=>some (SW p)
   | none=>none
 | .lookup _ x _ _=>match cS E bl f cur x with
   | some u=>some (Al u)
   | none=>none
 | .call ⟨.builtin .len,⟨[x]⟩,⟨[t]⟩⟩=>match mapOf E.P t,cS E bl f cur x with
   | some _,some u=>some (Al u)
   | _,_=>none
 | _=>none
def vz (P:Program) (o:Oper) (a:Act) (X:Nat->Prop) {El:Nat->Type} (bl:List (aC El)) (ρ:List Value) (w:World) (r:Value):Option (Option Nat)->Prop
 | none=>j3 P o a r
 | some i=>∃ (q:Nat) (S:World->Prop),(match i with
  | none=>bh X bl ρ w q
  | some i=>∃ B h,bl[i]? =some B/\ρ[i]? =some h/\q ∈ bA B h)/\S w/\(∀ w',w'.heap[q]? =w.heap[q]? ->S w')/\ ∀ w',S w'->bb P o a w' r w'
theorem vz.now {P:Program} {o:Oper} {a:Act} {X:Nat->Prop} {El:Nat->Type} {bl:List (aC El)} {ρ:List Value} {w:World} {r:Value}:∀ {i:Option (Option Nat)},vz P o a X bl ρ w r i->bb P o a w r w
 | none,h=>h w
 | some _,⟨_,_,_,I,_,aa⟩=>aa w I
end bn
namespace bn
open Go Go.RowKit au J
theorem mK {α:Type} {t:Nat} {y:α}:∀ {l:List (Nat × α)},cJ l t=some y->(t,y) ∈ l
 | [],h=>by simp [cJ] at h
 | p::r,h=>by
   simp only [cJ] at h
   split at h
   · rename_i ag
     simp only [Option.some.injEq] at h
     subst h
     rw [<-Nat.eq_of_beq_eq_true ag]
     simp
   · exact List.mem_cons_of_mem _ (mK h)
section
variable {E:Env} {W w w':World} {M0:List Nat} {X:Nat->Prop} {n:cE} {f:cu E.T.El} {bl:List (aC E.T.El)} {ρ:List Value} {a:Act} {cur:List (Nat × Bool)}
theorem ajB {P:Program} {o:Oper} {A:Option Addr} {m c sz t e:Nat} {x hi oK:Operand} (aO:P.underlying t=some (.slice e)) (ao:∀ w,(Go.sizeOf e).run P w= .ok sz w) (av:o.op= .slice t x none (some hi) (some oK)) (ad:a.eval x= .slice A m c) (I:a.eval hi= .int .i64 0) (aa:a.eval oK= .int .i64 0) (w:World):bb P o a w (.slice A 0 0) w:=by
 have fO:=aBp (P:=P) (w:=w) (A:=A) (m:=m) (c:=c) (j:=0) aO ao ⟨Int.le_refl _,by omega⟩
 simp only [bb,execOp,av,ad,Instr.sliceAt,Sem.run_bind,run_underlying aO,Result.andThen_ok,Option.map_none,Option.map_some,I,aa,fO]
 rfl
theorem ayU {F:Nat->Prop} {t:Nat} (A:Option Addr):ar E.T F w ρ bl (.q t []) (.slice A 0 0):=by
 simp only [ar]
 exact ⟨⟨A,0,rfl,Nat.le_refl _,Nat.zero_le _,fun _=>rfl,fun h=>absurd rfl h⟩,A,rfl⟩
theorem Vz {v:Value} (h:kZ v):∃ A m c,v= .slice A m c:=by
 cases v <;> simp [kZ] at h
 exact ⟨_,_,_,rfl⟩
theorem arD (hm:Mem E.T W M0 X bl ρ w) {o:Oper} {t:Nat} {x hi oK:Operand} {u z MD ME:aF E.T.El} (h:(Qd E bl t u (some MD) (some ME)).out z) (av:o.op= .slice t x none (some hi) (some oK))
 (ad:ar E.T (bh X bl ρ w) w ρ bl u (a.eval x)) (I:ar E.T (bh X bl ρ w) w ρ bl MD (a.eval hi)) (aa:ar E.T (bh X bl ρ w) w ρ bl ME (a.eval oK)):∃ r,j3 E.P o a r/\ar E.T (bh X bl ρ w) w ρ bl z r:=by
 unfold Qd at h
 split at h
 · rename_i e fE ao ag
   simp only [Bool.and_eq_true] at ag
   have bg:a.eval hi= .int .i64 0 :=by
    rcases NU (lo:=some hi) (u:=some MD) (show zc E _ w ρ bl a (some hi) (some MD) from I) ag.1 with ⟨e,_⟩ | ⟨_,e,k⟩
    · cases e
    · cases e;exact k
   have bf:a.eval oK= .int .i64 0 :=by
    rcases NU (lo:=some oK) (u:=some ME) (show zc E _ w ρ bl a (some oK) (some ME) from aa) ag.2 with ⟨e,_⟩ | ⟨_,e,k⟩
    · cases e
    · cases e;exact k
   obtain ⟨hu,ai⟩:=qn ao
   have fin:∀ {A:Option Addr} {m c:Nat},a.eval x= .slice A m c->(D.ok (aF.q e ([]:List (E.T.El e)))).out z-> ∃ r,j3 E.P o a r/\ar E.T (bh X bl ρ w) w ρ bl z r:=fun {A m c} ah h=>by
    have h:aF.q e []=z:=h
    subst h
    exact ⟨_,fun w'=>ajB hu ai av ah bg bf w',ayU A⟩
   split at h
   · split at h
     · simp only [ar] at ad;obtain ⟨A,c,ah⟩:=lb _ ad;exact fin ah h
     · simp only [ar] at ad;obtain ⟨A,ah⟩:=ad.2;exact fin ah h
     · split at h
       · simp only [ar] at ad;obtain ⟨A,m,c,ah⟩:=Vz ad.1;exact fin ah h
       · exact h.elim
     · have h:aF.p (.slice none 0 0)=z:=h
       subst h
       simp only [ar] at ad
       exact ⟨_,fun w'=>ajB hu ai av ad bg bf w',by simp only [ar]⟩
     · simp only [ar] at ad;exact fin ad h
     · exact h.elim
   · exact h.elim
 · exact h.elim
theorem aCD {k:IntKind} {m r:Int} (h:V3 k m=some r):k.wrap m=r:=by
 unfold V3 at h
 split at h <;> simp only [Option.some.injEq,reduceCtorEq] at h <;> subst h
 · exact uK m
 · rw [IntKind.wrap_u64];rfl
 · exact agc m
theorem aqT {P:Program} {o:Oper} {s d:Nat} {x:Operand} {u r:Value} (h:PI P s d u=some r) (av:o.op= .convert s d x) (ad:a.eval x=u):j3 P o a r:=by
 unfold PI at h
 split at h
 · rename_i k m
   split at h
   · rename_i j k' I aa
     split at h
     · rename_i eV aw bi
       simp only [Option.some.injEq] at h
       subst h
       have:=nz aw
       subst this
       rw [<-aCD bi]
       exact fun w=>Xz (tI I) (tI aa) av ad
     · cases h
   · cases h
 · cases h
theorem auQ {y:Operand} (ai:F7 y=true) (k:IntKind) (n:Int) (aJ:a.eval y= .int k n):n≠ 0 :=by
 unfold F7 at ai
 split at ai
 · rename_i k' fE
   have:a.eval (.const (.int k' fE))= .int k' fE:=rfl
   rw [this] at aJ
   injection aJ with _ e
   subst e
   simpa using ai
 · cases ai
theorem aq6 (h:R E W M0 X n f bl ρ a w) (hc:iS a cur) {o:Oper} {c x y:Operand} {z:aF E.T.El} (ai:(PT E bl f cur c x y).out z) (av:o.op= .pick c x y):∃ r,j3 E.P o a r/\ar E.T (bh X bl ρ w) w ρ bl z r:=by
 unfold PT at ai
 split at ai
 · rename_i b nl
   have kf:=di h hc nl
   simp only [ar] at kf
   have tk:b=true->(D.of (cS E bl f cur x)).out z-> ∃ r,j3 E.P o a r/\ar E.T (bh X bl ρ w) w ρ bl z r:=fun ag ai=>by
    have:=di h hc (D.nL ai)
    exact ⟨_,fun w'=>NN av (by rw [kf,ag]) rfl,this⟩
   have aaO:b=false->(D.of (cS E bl f cur y)).out z-> ∃ r,j3 E.P o a r/\ar E.T (bh X bl ρ w) w ρ bl z r:=fun ag ai=>by
    have:=di h hc (D.nL ai)
    exact ⟨_,fun w'=>NM av (by rw [kf,ag]) rfl,this⟩
   split at ai
   · cases b with
     | true=>exact tk rfl ai
     | false=>exact aaO rfl ai
   · rename_i lc _
     split at ai
     · rename_i aj
       have:=h.eD.eb _ (mK aj)
       have e:a.eval (.tmp lc)= .bool true:=this
       rw [kf] at e
       exact tk (by injection e) ai
     · rename_i aj
       have:=h.eD.eb _ (mK aj)
       have e:a.eval (.tmp lc)= .bool false:=this
       rw [kf] at e
       exact aaO (by injection e) ai
     · split at ai
       · rename_i u v hu ah
         obtain ⟨r,I,aa⟩:=ayn (a:=a) (x:=x) (y:=y) ai (fun ag=>di h (show iS a ((lc,true)::cur) from ⟨by subst ag;exact kf,hc⟩) hu) (fun ag=>di h (show iS a ((lc,false)::cur) from ⟨by subst ag;exact kf,hc⟩) ah)
         exact ⟨r,fun w'=>aGa av kf I,aa⟩
       · exact ai.elim
   · exact ai.elim
 · exact ai.elim
theorem ajK {P:Program} {o:Oper} {t t':TypeId} {x y:Operand} {A:Option Addr} {m c eU bH:Nat} {op:BinOp} {b:Bool} (aO:jT (P.underlying t)=some .ck) (ag:Au op A.isNone=some b) (av:o.op= .binOp op t x y t') (ad:a.eval x= .slice A m c) (hy:a.eval y= .slice none eU bH) (w:World):bb P o a w (.bool b) w:=by
 obtain ⟨e,hu⟩:=tI aO
 have h:∀ d:Nat,(Op.equalIn (d+ 1) t (.slice A m c) (.slice none eU bH)).run P w= .ok A.isNone w:=fun d=>by
  cases A <;> simp [Op.equalIn,run_underlying hu]
 cases op <;> simp only [Au,Option.some.injEq,reduceCtorEq] at ag <;> subst ag
 · have aa:(binOp .eql t (.slice A m c) (.slice none eU bH)).run P w= .ok (.bool A.isNone) w:=by
    simp only [binOp]
    simp [Op.equal,Op.maxDepth,h 9999]
   simp only [bb,execOp,av,ad,hy]
   simp [go_sem,aa]
 · have aa:(binOp .neq t (.slice A m c) (.slice none eU bH)).run P w= .ok (.bool (!A.isNone)) w:=by
    simp only [binOp]
    simp [Op.equal,Op.maxDepth,h 9999]
   simp only [bb,execOp,av,ad,hy]
   simp [go_sem,aa]
theorem afP {α:Type} {T:cY α} {F:Nat->Prop} {v:Value} {d:α} {l:List α} (h:(b4 T).rd F w [v] (d::l)):∃ g m c,v= .slice (some g) m c:=by
 obtain ⟨A,c,e,_,_,_,aa⟩:=h
 simp only [List.cons.injEq,and_true] at e
 subst e
 rw [(aa (by simp)).1]
 exact ⟨_,_,_,rfl⟩
theorem axT (hm:Mem E.T W M0 X bl ρ w) {u:aF E.T.El} {v:Value} (h:Tz bl u=true) (ah:ar E.T (bh X bl ρ w) w ρ bl u v):∃ g m c,v= .slice (some g) m c:=by
 unfold Tz at h
 split at h
 · simp only [ar] at ah;exact afP ah
 · simp only [ar] at ah;exact afP ah.1
 · simp only [ar] at ah;exact ⟨_,_,_,ah⟩
 · split at h
   · rename_i t' bG k d l hi
     rw [cW] at hi
     simp only [ar] at ah
     obtain ⟨_,aM,bk,bF,b1⟩:=ah
     rw [hi] at b1
     obtain ⟨A,c,xs,ak,al,aV⟩:=hm.ok _ _ _ hi bk
     rw [b1 (Nat.eq_of_beq_eq_true h),ak]
     rw [ak] at al
     obtain ⟨g,rfl⟩:=Dn al (by simp)
     exact ⟨_,_,_,rfl⟩
   · cases h
 · cases h
theorem adN {F:Nat->Prop} {u:aF E.T.El} {v:Value} (h:Lv u=true) (ah:ar E.T F w ρ bl u v):∃ m c,v= .slice none m c:=by
 unfold Lv at h
 split at h
 · simp only [ar] at ah;exact ⟨_,_,ah⟩
 · cases h
theorem aq4 (hm:Mem E.T W M0 X bl ρ w) {t:Nat} {op:BinOp} {u v:aF E.T.El} {o:Oper} {x y:Operand} {t':TypeId} {b:Bool} (h:PR E.P bl t op u v=some b) (av:o.op= .binOp op t x y t') (ad:ar E.T (bh X bl ρ w) w ρ bl u (a.eval x)) (hy:ar E.T (bh X bl ρ w) w ρ bl v (a.eval y)):j3 E.P o a (.bool b):=by
 unfold PR at h
 split at h
 · rename_i b0 I aa aw
   obtain ⟨eU,bH,vS⟩:=adN aa hy
   split at h
   · rename_i hu
     simp only [Option.some.injEq] at h
     subst h
     obtain ⟨m,c,ex⟩:=adN hu ad
     exact fun w'=>ajK (A:=none) I aw av ex vS w'
   · split at h
     · rename_i hu
       simp only [Option.some.injEq] at h
       subst h
       obtain ⟨g,m,c,ex⟩:=axT hm hu ad
       refine fun w'=>ajK (A:=some g) I ?_ av ex vS w'
       cases op <;> simp only [Au,Option.some.injEq,reduceCtorEq] at aw ⊢ <;> subst aw <;> rfl
     · cases h
 · cases h
theorem aaE (a3:c8 E) (h:R E W M0 X n f bl ρ a w) (hc:iS a cur) {o:Oper} {op:Op} (av:o.op=op) {z:aF E.T.El} (ai:(Cb E bl f cur op).out z):∃ r,ar E.T (bh X bl ρ w) w ρ bl z r/\vz E.P o a X bl ρ w r (oG E bl f cur op):=by
 have h8:(∃ r,j3 E.P o a r/\ar E.T (bh X bl ρ w) w ρ bl z r)-> ∃ r,ar E.T (bh X bl ρ w) w ρ bl z r/\vz E.P o a X bl ρ w r none:=fun ⟨r,I,aa⟩=>⟨r,aa,I⟩
 unfold Cb at ai
 split at ai
 · exact h8 ⟨_,fun w'=>ajF av rfl,di h hc (D.nL ai)⟩
 · exact h8 ⟨_,fun w'=>Xy av rfl,di h hc (D.nL ai)⟩
 · exact h8 (aq6 h hc ai av)
 · split at ai
   · rename_i u v I aa
     split at ai
     · rename_i b ag
       have ai:aF.p (.bool b)=z:=ai
       subst ai
       exact h8 ⟨_,aq4 h.mem ag av (di h hc I) (di h hc aa),by simp only [ar]⟩
     · exact h8 (aqO a3 ai av (fun aj=>auQ aj) (di h hc I) (di h hc aa))
   · exact ai.elim
 · split at ai
   · rename_i p I
     have ai:aF.p (.bool (!p))=z:=ai
     subst ai
     have:=di h hc I
     simp only [ar] at this
     exact h8 ⟨_,fun w'=>ajH av this,by simp only [ar]⟩
   · exact ai.elim
 · split at ai
   · rename_i m I
     have ai:aF.p (.int .i64 (aA (0 - m)))=z:=ai
     subst ai
     have:=di h hc I
     simp only [ar] at this
     exact h8 ⟨_,fun w'=>aF_ av this,by simp only [ar]⟩
   · exact ai.elim
 · split at ai
   · rename_i u I
     split at ai
     · rename_i r aa
       have ai:aF.p r=z:=ai
       subst ai
       have:=di h hc I
       simp only [ar] at this
       exact h8 ⟨_,aqT aa av this,by simp only [ar]⟩
     · exact ai.elim
   · exact ai.elim
 · rename_i t x
   split at ai
   · rename_i p I
     obtain ⟨dY,us,v,bg,bf,cc,da,ny⟩:=aq1 a3.tb h.mem (di h hc I) ai
     refine ⟨v,bf,?_⟩
     simp only [oG,I,vz]
     refine ⟨dY.block,fun w'=>e5 w' dY us,?_,cc,fun w' hw=>cc.law hw,fun w' hw=>da o a x w' av bg hw⟩
     revert ny
     cases SW p <;> exact fun h=>h
   · exact ai.elim
 · split at ai
   · rename_i p off oo sz I aa
     split at ai
     · rename_i aN
       obtain ⟨g,q,ak,al⟩:=ayw aN (D.nL ai) (di h hc I)
       obtain ⟨ca,fd,bg,bf,cc,da,ny,wv⟩:=aaP aa
       subst cc
       exact h8 ⟨_,fun w'=>ajA bg bf ny wv av ak,al⟩
     · exact ai.elim
   · exact ai.elim
 · split at ai
   · rename_i p I
     split at ai
     · rename_i aN
       have ai:p=z:=ai
       subst ai
       have:=di h hc I
       obtain ⟨q,e⟩:=acx aN this
       exact h8 ⟨_,fun w'=>ajG av e,by rw [<-e];exact this⟩
     · exact ai.elim
   · exact ai.elim
 · split at ai
   · rename_i l I
     have:=di h hc I
     simp only [ar] at this
     obtain ⟨vs,ak,al⟩:=this
     have hi:=D.nL ai
     rw [cW] at hi
     obtain ⟨v,aV,bS⟩:=al.at_ hi
     exact h8 ⟨v,fun w'=>Iw (vs:=vs) av ak aV,bS⟩
   · exact ai.elim
 · split at ai
   · rename_i us I
     have ai:aF.f _ us=z:=ai
     subst ai
     have:=Ax h hc I
     refine h8 ⟨_,fun w'=>?_,by simp only [ar];exact ⟨_,rfl,this⟩⟩
     simp only [bb,execOp,av,Instr.makeFunc]
     simp only [List.map_toArray,List.map_nil]
     rfl
   · exact ai.elim
 · split at ai
   · rename_i us I
     have ai:aF.h _ us=z:=ai
     subst ai
     have:=Ax h hc I
     refine h8 ⟨_,fun w'=>?_,by simp only [ar];exact ⟨_,rfl,this⟩⟩
     simp only [bb,execOp,av,Instr.makeFunc]
     simp only [List.map_toArray,List.map_nil]
     rfl
   · exact ai.elim
 · split at ai
   · rename_i y I aa
     have ai:aF.i _ y=z:=ai
     subst ai
     exact h8 ⟨_,fun w'=>aFZ aa av rfl,by simp only [ar];exact ⟨_,rfl,di h hc I⟩⟩
   · exact ai.elim
 · split at ai
   · rename_i u v I aa
     exact h8 (aqV h.mem ai av (di h hc I) (di h hc aa))
   · exact ai.elim
 · split at ai
   · rename_i p j I aa aw
     obtain ⟨b,bg,bf⟩:=ai
     have bf:aF.p (.int .u8 (b.toNat:Int))=z:=bf
     subst bf
     have ak:=di h hc I
     have al:=di h hc aa
     simp only [ar] at ak al
     exact h8 ⟨_,fun w'=>aF1 (tI aw) av ak al bg,by simp only [ar]⟩
   · exact ai.elim
 · split at ai
   · rename_i u lo hi I aa aw
     exact h8 (aqS h.mem ai av (di h hc I) (ad1 h hc aa) (ad1 h hc aw))
   · exact ai.elim
 · split at ai
   · rename_i u lo hi I aa aw
     exact h8 (arD h.mem ai av (di h hc I) (di h hc aa) (di h hc aw))
   · exact ai.elim
 · split at ai
   · rename_i u v I aa
     obtain ⟨r,q,ak,al,aV⟩:=aq2 a3 h.mem ai av (di h hc I) (di h hc aa)
     refine ⟨r,ak,?_⟩
     simp only [oG,I,vz]
     refine ⟨q,fun w'=>w'.heap[q]? =w.heap[q]?,?_,rfl,fun w' hw=>hw,aV⟩
     revert al
     cases Al u <;> exact fun h=>h
   · exact ai.elim
 · split at ai
   · rename_i u I
     exact h8 (aq5 ai av (di h hc I))
   · exact ai.elim
 · split at ai
   · rename_i ys I
     obtain ⟨v,ak,al⟩:=aqP (TD h hc I) ai
     exact h8 ⟨v,fun w'=>al o a _ w' av rfl,ak⟩
   · exact ai.elim
 · split at ai
   · rename_i x t _ u I
     split at ai
     · rename_i KT aj
       obtain ⟨r,q,ak,al,aV⟩:=aqZ h.mem ai av (di h hc I)
       refine ⟨r,ak,?_⟩
       simp only [oG,aj,I,vz]
       refine ⟨q,fun w'=>w'.heap[q]? =w.heap[q]?,?_,rfl,fun w' hw=>hw,aV⟩
       revert al
       cases Al u <;> exact fun h=>h
     · rename_i aj
       have:=h8 (aq0 h.mem ai av (di h hc I))
       simpa only [oG,aj] using this
   · exact ai.elim
 · split at ai
   · rename_i e A m c ao I
     have ai:aF.p (.int .i64 (c:Int))=z:=ai
     subst ai
     have ah:=di h hc I
     simp only [ar] at ah
     exact h8 ⟨_,fun w'=>aFR (qn (e:=e.1) (n:=e.2) ao).1 av ah,by simp only [ar]⟩
   · exact ai.elim
 · exact ai.elim
end
end bn
namespace bn
open Go Go.RowKit au J
structure ek (El:Nat->Type) where
 y:Option (aF El)
 bl:List (aC El)
 ws:List Nat
section
variable {T:bT} {W w w':World} {M0:List Nat} {X:Nat->Prop} {bl:List (aC T.El)} {ρ:List Value}
theorem Mem.adY (hm:Mem T W M0 X bl ρ w) {k:Nat} (h:n6 bl ρ k): ¬ X k:=fun ad=>by
 have I:=hm.hf k ad
 rcases (hm.lt k h).2 with e | e
 · exact I.2 e
 · omega
theorem Ds {α:Type} {l:List α} {i:Nat} {x:α} (h:l[i]? =some x):l.set i x=l:=by
 obtain ⟨I,aa⟩:=List.getElem?_eq_some_iff.1 h
 rw [<-aa,List.set_getElem_self]
theorem Mem.freeze (hm:Mem T W M0 X bl ρ w) {i t g k:Nat} {l:List (T.El t)} (hi:bl[i]? =some (.r t g k l)):Mem T W M0 X (bl.set i (.z t g k l)) ρ w/\To X bl (bl.set i (.z t g k l)) ρ ρ w w:=by
 obtain ⟨h,bC⟩:=hm.Ac hi
 have aO:=hm.Dx (B':=aC.z t g k l) (h':=h) (w':=w) hi bC (bp.refl _ _) (fun q aT=>by simp [bA] at aT) ⟨fun _=>rfl,Nat.le_refl _,fun _=>⟨rfl,rfl,Nat.le_refl _,fun _=>rfl⟩⟩
 have dH:=hm.uH (B':=aC.z t g k l) (h':=h) (w':=w) hi bC (bp.refl _ _) (fun q aT=>by simp [bA] at aT) aO (by
  obtain ⟨A,c,xs,rfl,aa,aw⟩:=hm.ok i _ _ hi bC
  obtain ⟨c1,c2,c3,c4⟩:=aa.cap
  refine ⟨A,c,rfl,c1,c2,c3,fun b3=>?_⟩
  have gS:0 <l.length:=List.length_pos_iff.2 b3
  obtain ⟨dV,rfl,ta,hc,kh⟩:=r1 gS aa
  refine ⟨rfl,?_,xs,mR _ aO.F aw,by simpa [dk,gg] using hc⟩
  have kj:n6 bl ρ dV:=⟨i,_,_,hi,bC,by simp only [bA];rw [kh];simp⟩
  refine ⟨by simpa [dk] using hm.adY kj,?_,by simpa [dk] using (hm.lt dV kj).1⟩
  rintro ⟨j,B,g',aI,ax,aj⟩
  by_cases e:j=i
  · subst e
    rw [List.getElem?_set_self (List.getElem?_eq_some_iff.1 hi).1] at aI
    cases aI
    simp [bA] at aj
  · rw [List.getElem?_set_ne (Ne.symm e)] at aI
    rw [List.getElem?_set_ne (Ne.symm e)] at ax
    exact hm.bx i j _ _ _ _ hi bC aI ax (Ne.symm e) dV (by simp only [bA];rw [kh];simp) (by simpa [dk] using aj))
 rw [Ds bC] at dH aO
 exact ⟨dH,aO⟩
end
def fJ {El:Nat->Type} (bl:List (aC El)):aF El->List (aC El) × aF El
 | .r i g=>match nth bl i with
   | some (.r t bG k l)=>match Nat.beq g bG with
     | true=>(bl.set i (.z t bG k l),.s t l)
     | false=>(bl,.r i g)
   | some (.z t bG _ l)=>match Nat.beq g bG with
     | true=>(bl,.s t l)
     | false=>(bl,.r i g)
   | _=>(bl,.r i g)
 | .q t l=>(bl,.s t l)
 | y=>(bl,y)
def mx {El:Nat->Type}:List (aC El)->List (aF El)->List (aC El) × List (aF El)
 | bl,[]=>(bl,[])
 | bl,y::r=>match fJ bl y with
   | (bl',fA)=>match mx bl' r with
     | (sN,eV)=>(sN,fA::eV)
section
variable {T:bT} {W w w':World} {M0:List Nat} {X:Nat->Prop} {bl:List (aC T.El)} {ρ:List Value}
theorem aaX (hm:Mem T W M0 X bl ρ w) {y fA:aF T.El} {bl':List (aC T.El)} {v:Value} (h:fJ bl y=(bl',fA)) (ah:ar T (bh X bl ρ w) w ρ bl y v):Mem T W M0 X bl' ρ w/\To X bl bl' ρ ρ w w/\ar T (bh X bl' ρ w) w ρ bl' fA v:=by
 have same:∀ {u:aF T.El},(bl,u)=(bl',fA)->ar T (bh X bl ρ w) w ρ bl u v->Mem T W M0 X bl' ρ w/\To X bl bl' ρ ρ w w/\ar T (bh X bl' ρ w) w ρ bl' fA v:=fun {u} h hu=>by
  simp only [Prod.mk.injEq] at h
  obtain ⟨rfl,rfl⟩:=h
  exact ⟨hm,.refl,hu⟩
 unfold fJ at h
 split at h
 · rename_i i g
   split at h
   · rename_i t bG k l hi
     rw [cW] at hi
     split at h
     · rename_i ag
       have ag:=Nat.eq_of_beq_eq_true ag
       subst ag
       simp only [Prod.mk.injEq] at h
       obtain ⟨rfl,rfl⟩:=h
       obtain ⟨I,aa⟩:=hm.freeze hi
       refine ⟨I,aa,?_⟩
       have fZ:=aa.v ah
       simp only [ar] at fZ ⊢
       obtain ⟨_,aM,bk,bF,b1⟩:=fZ
       have cR:(bl.set i (aC.z t g k l))[i]? =some (aC.z t g k l):=List.getElem?_set_self (List.getElem?_eq_some_iff.1 hi).1
       rw [cR] at b1
       rw [b1 rfl]
       exact I.ok i _ _ cR bk
     · exact same h ah
   · rename_i t bG k l hi
     rw [cW] at hi
     split at h
     · rename_i ag
       refine same h ?_
       have:=Lw hm ah
       simp only [nm,cW,hi,ag] at this
       exact this
     · exact same h ah
   · exact same h ah
 · refine same h ?_
   simp only [ar] at ah ⊢
   exact ah.1
 · exact same h ah
theorem J1:∀ {ys dT:List (aF T.El)} {bl bl':List (aC T.El)} {vs:List Value},Mem T W M0 X bl ρ w->mx bl ys=(bl',dT)->a4 T (bh X bl ρ w) w ρ bl ys vs->Mem T W M0 X bl' ρ w/\To X bl bl' ρ ρ w w/\a4 T (bh X bl' ρ w) w ρ bl' dT vs
 | [],dT,bl,bl',vs,hm,h,ah=>by
   simp only [mx,Prod.mk.injEq] at h
   obtain ⟨rfl,rfl⟩:=h
   exact ⟨hm,.refl,ah⟩
 | y::r,dT,bl,bl',vs,hm,h,ah=>by
   simp only [a4] at ah
   obtain ⟨u,us,rfl,hu,aE⟩:=ah
   simp only [mx] at h
   cases I:fJ bl y with
   | mk bY cL=>
     rw [I] at h
     cases aa:mx bY r with
     | mk eA dM=>
       rw [aa] at h
       simp only [Prod.mk.injEq] at h
       obtain ⟨rfl,rfl⟩:=h
       obtain ⟨ey,t1,v1⟩:=aaX hm I hu
       obtain ⟨hE,t2,v2⟩:=J1 ey aa (t1.vs aE)
       refine ⟨hE,t1.trans t2,?_⟩
       simp only [a4]
       exact ⟨u,us,rfl,t2.v v1,v2⟩
end
section
variable {E:Env} {W w w':World} {M0:List Nat} {X:Nat->Prop} {n:cE} {f:cu E.T.El} {bl:List (aC E.T.El)} {ρ:List Value} {a:Act} {cur:List (Nat × Bool)}
def gG (E:Env) (o:Oper) (a:Act) (W:World) (M0:List Nat) (X:Nat->Prop) (bl:List (aC E.T.El)) (ρ:List Value) (w:World) (e:ek E.T.El):Prop:=
 ∃ w' ρ',Mem E.T W M0 X e.bl ρ' w'/\To X bl e.bl ρ ρ' w w'/\(∀ k,k <w.heap.size->(∀ i ∈ e.ws,∀ B h,bl[i]? =some B->ρ[i]? =some h->k ∉ bA B h)->w'.heap[k]? =w.heap[k]?) /\
   match e.y with
   | some y=>∃ v,bb E.P o a w v w'/\ar E.T (bh X e.bl ρ' w') w' ρ' e.bl y v
   | none=>pr E.P o a w w'
theorem adM (hm:Mem E.T W M0 X bl ρ w) {o:Oper} {t:Nat} {cs:List (aF E.T.El)} {vs:List Value} (aE:a4 E.T (bh X bl ρ w) w ρ bl cs vs) (hy:bb E.P o a w (.pointer (some ⟨w.heap.size,0,none⟩)) (w.alloc (.cells ⟨vs⟩ t))) :
 gG E o a W M0 X bl ρ w ⟨some (.b bl.length 0),bl++[.c t cs],[]⟩:=by
 have ah:bp [] w (w.alloc (.cells ⟨vs⟩ t)):=bp.alloc _ _ _
 have af:∀ k ∈ bA (aC.c t cs) (.pointer (some ⟨w.heap.size,0,none⟩)),w.heap.size<=k/\k <(w.alloc (.cells ⟨vs⟩ t)).heap.size:=fun k aj=>by
  simp only [bA,ag,List.mem_singleton] at aj
  subst aj
  simp
 have aO:=hm.xz (B:=aC.c t cs) (h:=.pointer (some ⟨w.heap.size,0,none⟩)) ah af
 refine ⟨_,ρ++[.pointer (some ⟨w.heap.size,0,none⟩)],hm.push ah af ⟨_,vs,rfl,heap_alloc_new w _,aO.vs aE⟩,aO,fun k aj _=>ah.block k aj (by simp),_,hy,?_⟩
 simp only [ar]
 exact ⟨_,by rw [<-hm.len];simp,rfl⟩
theorem axt (hm:Mem E.T W M0 X bl ρ w) {o:Oper} {kt vt:Nat} {K:hW (E.T.El kt)} (cG:(E.T.e kt).key=some K) (hy:bb E.P o a w (.map (some w.heap.size)) (w.alloc (.map #[] 0))) :
 gG E o a W M0 X bl ρ w ⟨some (.m bl.length),bl++[.m kt vt []],[]⟩:=by
 have ah:bp [] w (w.alloc (.map #[] 0)):=bp.alloc _ _ _
 have af:∀ k ∈ bA (aC.m kt vt ([]:List (E.T.El kt × E.T.El vt))) (.map (some w.heap.size)),w.heap.size<=k/\k <(w.alloc (.map #[] 0)).heap.size:=fun k aj=>by
  simp only [bA,ag,List.mem_singleton] at aj
  subst aj
  simp
 have aO:=hm.xz (B:=aC.m kt vt ([]:List (E.T.El kt × E.T.El vt))) (h:=.map (some w.heap.size)) ah af
 refine ⟨_,ρ++[.map (some w.heap.size)],hm.push ah af ⟨_,rfl,K,cG,#[],0,heap_alloc_new w _,trivial,by simp,by simp⟩,aO,fun k aj _=>ah.block k aj (by simp),_,hy,?_⟩
 simp only [ar]
 exact ⟨_,by rw [<-hm.len];simp,rfl⟩
def LD {El:Nat->Type}:aF El->Bool
 | .a _=>false
 | .u _=>false
 | .p v=>v.oneCell'
 | _=>true
theorem ax' {F:Nat->Prop} {y:aF E.T.El} {v:Value} (h:LD y=true) (ah:ar E.T F w ρ bl y v):v.oneCell'=true:=by
 cases y with
 | p u=>simp only [ar] at ah;subst ah;exact h
 | a l=>simp [LD] at h
 | b i o=>simp only [ar] at ah;obtain ⟨g,_,rfl⟩:=ah;rfl
 | x t d o=>simp only [ar] at ah;obtain ⟨_,_,_,rfl,_⟩:=ah;rfl
 | s t l=>simp only [ar] at ah;obtain ⟨A,c,e⟩:=lb _ ah;subst e;rfl
 | q t l=>simp only [ar] at ah;obtain ⟨_,A,rfl⟩:=ah;rfl
 | r i g=>simp only [ar] at ah;obtain ⟨A,m,c,rfl⟩:=Vz ah.1;rfl
 | v i g lo hi=>simp only [ar] at ah;obtain ⟨A,m,c,rfl⟩:=Vz ah.1;rfl
 | e i g k t j d o=>simp only [ar] at ah;have:=ah.1;cases v <;> simp [tG] at this;rfl
 | w i g o=>simp only [ar] at ah;have:=ah.1;cases v <;> simp [tG] at this;rfl
 | m i=>simp only [ar] at ah;obtain ⟨g,_,rfl⟩:=ah;rfl
 | n _ _ _=>simp only [ar] at ah;obtain ⟨g,rfl,_⟩:=ah;rfl
 | f fn cs=>simp only [ar] at ah;obtain ⟨g,rfl,_⟩:=ah;rfl
 | h fn us=>simp only [ar] at ah;obtain ⟨g,rfl,_⟩:=ah;rfl
 | u l=>simp [LD] at h
 | i t z=>simp only [ar] at ah;obtain ⟨g,rfl,_⟩:=ah;rfl
 | pp i g sz eh=>simp only [ar] at ah;obtain ⟨_,_,rfl,_⟩:=ah;rfl
 | xg i g sz q=>simp only [ar] at ah;obtain ⟨_,_,_,rfl,_⟩:=ah;rfl
def uu {El:Nat->Type}:List (aF El)->Bool
 | []=>true
 | y::r=>LD y && uu r
theorem GC {F:Nat->Prop}:∀ {ys:List (aF E.T.El)} {vs:List Value},uu ys=true->a4 E.T F w ρ bl ys vs->vs.all (·.oneCell')=true
 | [],vs,_,ah=>by simp only [a4] at ah;subst ah;rfl
 | y::r,vs,h,ah=>by
   simp only [a4] at ah
   obtain ⟨u,us,rfl,I,aa⟩:=ah
   simp only [uu,Bool.and_eq_true] at h
   simp only [List.all_cons,Bool.and_eq_true]
   exact ⟨ax' h.1 I,GC h.2 aa⟩
theorem KY:∀ (l:List Value) (n:Nat) (cs:List Value),au.lay l n cs=fq l n cs
 | l,0,cs=>by cases l <;> rfl
 | [],n+ 1,cs=>rfl
 | u::l,n+ 1,cs=>by simp only [au.lay,fq,KY l n cs]
def Mw {El:Nat->Type} (bl:List (aC El)) (i:Nat):Bool:=match nth bl i with
 | some (.r _ _ _ _)=>true
 | _=>false
def PU (E:Env) (bl:List (aC E.T.El)) (t:Nat) (p y:aF E.T.El):D (ek E.T.El):=match lay E.P t,uu (cellsOf y) with
 | some (_,sz),true=>match Nat.beq (cellsOf y).length sz with
   | true=>match p with
     | .b i o=>match nth bl i with
       | some (.c ty cs)=>match Nat.ble (o+(cellsOf y).length) cs.length with
         | true=>.ok ⟨none,bl.set i (.c ty (fq cs o (cellsOf y))),[i]⟩
         | false=>.no
       | _=>.no
     | .e i g k t' j d o=>match nth bl i with
       | some (.r t2 bG bf l)=>match Nat.beq g bG,Nat.beq k bf with
         | true,true=>match mx bl (fq ((E.T.e t').cs d) o (cellsOf y)),Nat.decEq t' t2,Nat.ble (o+(cellsOf y).length) ((E.T.e t').cs d).length with
           | (bl',cs),.isTrue h,true=>match (E.T.e t').gT cs,Mw bl' i with
             | some d',true=>.ok ⟨none,bl'.set i (.r t2 bG (bf+ 1) (l.set j.toNat (h ▸ d'))),[i]⟩
             | _,_=>.no
           | _,_,_=>.no
         | true,false=>.op (idx l j) fun d=>match mx bl (fq ((E.T.e t2).cs d) o (cellsOf y)),Nat.ble (o+(cellsOf y).length) ((E.T.e t2).cs d).length with
           | (bl',cs),true=>match (E.T.e t2).gT cs,Mw bl' i with
             | some d',true=>.ok ⟨none,bl'.set i (.r t2 bG (bf+ 1) (l.set j.toNat d')),[i]⟩
             | _,_=>.no
           | _,_=>.no
         | _,_=>.no
       | _=>.no
     | .w i g o=>match nth bl i with
       | some (.k t2 s2 bG cs)=>match Nat.beq g bG && Nat.ble (o+(cellsOf y).length) cs.length with
         | true=>.ok ⟨none,bl.set i (.k t2 s2 bG (fq cs o (cellsOf y))),[i]⟩
         | false=>.no
       | _=>.no
     | _=>.no
   | false=>.no
 | _,_=>.no
theorem afs {o:Oper} {t g c m sz n q tb:Nat} {x y:Operand} {v:Value} {xs vs:List Value} (ah:v.cells=vs.toArray) (ao:∀ w,(Go.sizeOf t).run E.P w= .ok sz w) (aq:Nat.beq vs.length sz=true) (I:vs.all (·.oneCell')=true)
 (aJ:0 <n) (aE:rowIs w tb m (.slice (some ⟨g,0,none⟩) n c) n xs) (hle:q+vs.length<=xs.length) (av:o.op= .store t x y) (ad:a.eval x= .pointer (some ⟨g,q,none⟩)) (hy:a.eval y=v) :
 ∃ w',pr E.P o a w w'/\bp [g] w w'/\rowIs w' tb m (.slice (some ⟨g,0,none⟩) n c) n (fq xs q vs):=by
 have hlen:=aE.len
 have aE:=aE.own aJ
 rcases aE.2 with ⟨_,aQ⟩ | ⟨g',cap,cur,ak,al,aV,bS,dw,gR,kM⟩
 · omega
 · simp only [Value.slice.injEq,Option.some.injEq,Addr.mk.injEq,and_true,true_and] at ak
   obtain ⟨rfl,rfl⟩:=ak
   have hB:xs.length<=cur.toList.length:=by rw [<-kM,List.length_take];omega
   obtain ⟨w',bg,bf,cc⟩:=XB (tb:=tb) (cs:=cur.toList) ah ao aq I (by simpa using Nat.le_trans hle (by simpa using hB)) (show (a7.dU g tb cur.toList).ok w by simpa [a7.dU] using aV) av ad hy
   refine ⟨w',bg,bf,.inl ⟨by rw [SU hle,hlen],.inr ⟨g,c,⟨au.lay cur.toList q vs⟩,rfl,al,cc,bS,dw,?_,?_⟩⟩⟩
   · rw [KY]
     simp only [List.size_toArray]
     rw [SU (by omega)]
     simpa using gR
   · rw [KY]
     simp only
     subst kM
     rw [tZ _ _ _ (by omega),tZ _ _ _ hle]
     have dA:n*m<=cur.toList.length:=by have:=gR;have hd:n*m<=c*m:=Nat.mul_le_mul_right m bS;simp;omega
     exact VF (by rw [hlen] at hle;exact hle) dA
theorem adq {j n sz o k:Nat} (h:j <n) (aa:o+k<=sz):j*sz+o+k<=n*sz:=by
 have:(j+ 1)*sz<=n*sz:=Nat.mul_le_mul_right sz h
 rw [Nat.add_mul] at this
 omega
end
end bn
namespace bn
open Go Go.RowKit au J
section
variable {E:Env} {W w w':World} {M0:List Nat} {X:Nat->Prop} {n:cE} {f:cu E.T.El} {bl:List (aC E.T.El)} {ρ:List Value} {a:Act} {cur:List (Nat × Bool)}
theorem KJ (hm:Mem E.T W M0 X bl ρ w) {o:Oper} {i:Nat} {B B':aC E.T.El} {h:Value} (hi:bl[i]? =some B) (bC:ρ[i]? =some h) (ah:bp (bA B h) w w') (af:bA B' h=bA B h)
 (aq:b5 (some B')=b5 (some B)/\iz E.T (some B')=iz E.T (some B)/\gB (some B)<=gB (some B')/\(gB (some B')=gB (some B)->iy (some B')=iy (some B))) (hy:pr E.P o a w w')
 (bO:To X bl (bl.set i B') ρ ρ w w'->ih E.T (bh X (bl.set i B') ρ w') w' ρ (bl.set i B') B' h):gG E o a W M0 X bl ρ w ⟨none,bl.set i B',[i]⟩:=by
 have dR:∀ k ∈ bA B' h,k ∈ bA B h\/(w.heap.size<=k/\k <w'.heap.size):=fun k aj=>.inl (af ▸ aj)
 have aO:=hm.Dx (B':=B') (h':=h) hi bC ah dR ⟨fun _=>rfl,by rw [aq.1];exact Nat.le_refl _,fun _=>⟨rfl,aq.2⟩⟩
 have ao:=Ds bC
 have dH:=hm.uH (B':=B') (h':=h) hi bC ah dR aO (by rw [ao] at aO ⊢;exact bO aO)
 rw [ao] at dH aO
 exact ⟨w',ρ,dH,aO,fun k aj cN=>ah.block k aj (cN i (by simp) B h hi bC),hy⟩
theorem gG.first {o:Oper} {bl':List (aC E.T.El)} {e:ek E.T.El} (aO:To X bl bl' ρ ρ w w) (aj:∀ i ∈ e.ws,∀ B' h k,bl'[i]? =some B'->ρ[i]? =some h->k ∈ bA B' h-> ∃ B,bl[i]? =some B/\k ∈ bA B h) (h:gG E o a W M0 X bl' ρ w e):gG E o a W M0 X bl ρ w e:=by
 obtain ⟨w',ρ',I,aa,aw,bi⟩:=h
 refine ⟨w',ρ',I,aO.trans aa,fun k bE aJ=>aw k bE fun i hi B' g ag ax ad=>?_,bi⟩
 obtain ⟨B,bg,bf⟩:=aj i hi B' g k ag ax ad
 exact aJ i hi B g bg ax bf
theorem arB {bl bl':List (aC E.T.El)} {y fA:aF E.T.El} (h:fJ bl y=(bl',fA)) (i:Nat):bl'[i]? =bl[i]? \/ ∃ t g k l,bl[i]? =some (.r t g k l)/\bl'[i]? =some (.z t g k l):=by
 unfold fJ at h
 split at h
 · rename_i j g
   split at h
   · rename_i t bG k l aI
     rw [cW] at aI
     split at h
     · simp only [Prod.mk.injEq] at h
       obtain ⟨rfl,_⟩:=h
       by_cases e:i=j
       · subst e
         exact .inr ⟨t,bG,k,l,aI,List.getElem?_set_self (List.getElem?_eq_some_iff.1 aI).1⟩
       · exact .inl (List.getElem?_set_ne (Ne.symm e))
     · simp only [Prod.mk.injEq] at h;exact .inl (by rw [h.1])
   · split at h <;> (simp only [Prod.mk.injEq] at h;exact .inl (by rw [h.1]))
   · simp only [Prod.mk.injEq] at h;exact .inl (by rw [h.1])
 · simp only [Prod.mk.injEq] at h;exact .inl (by rw [h.1])
 · simp only [Prod.mk.injEq] at h;exact .inl (by rw [h.1])
theorem J0:∀ {ys dT:List (aF E.T.El)} {bl bl':List (aC E.T.El)},mx bl ys=(bl',dT)-> ∀ i:Nat,bl'[i]? =bl[i]? \/ ∃ t g k l,bl[i]? =some (.r t g k l)/\bl'[i]? =some (.z t g k l)
 | [],dT,bl,bl',h,i=>by
   simp only [mx,Prod.mk.injEq] at h
   exact .inl (by rw [h.1])
 | y::r,dT,bl,bl',h,i=>by
   simp only [mx] at h
   cases I:fJ bl y with
   | mk bY cL=>
     rw [I] at h
     cases aa:mx bY r with
     | mk eA dM=>
       rw [aa] at h
       simp only [Prod.mk.injEq] at h
       obtain ⟨rfl,_⟩:=h
       rcases arB I i with ak | ⟨t,g,k,l,ak,al⟩
       · rcases J0 aa i with aV | ⟨t,g,k,l,aV,bS⟩
         · exact .inl (aV.trans ak)
         · exact .inr ⟨t,g,k,l,by rw [<-ak];exact aV,bS⟩
       · rcases J0 aa i with aV | ⟨t',g',k',l',aV,bS⟩
         · exact .inr ⟨t,g,k,l,ak,by rw [aV,al]⟩
         · rw [al] at aV;cases aV
theorem ada {α:Type}:∀ (l:List α) (q:Nat) (cs b:List α),q+cs.length<=l.length->fq (l++b) q cs=fq l q cs++b
 | l,0,cs,b,h=>by
   have e:∀ m:List α,fq m 0 cs=cs++m.drop cs.length:=fun m=>by cases m <;> rfl
   rw [e,e,List.drop_append_of_le_length (by simpa using h),List.append_assoc]
 | [],q+ 1,cs,b,h=>by simp at h
 | u::l,q+ 1,cs,b,h=>by
   simp only [List.cons_append,fq,ada l q cs b (by simp at h;omega)]
theorem adb {α:Type}:∀ (a l:List α) (q:Nat) (cs:List α),fq (a++l) (a.length+q) cs=a++fq l q cs
 | [],l,q,cs=>by simp
 | u::a,l,q,cs=>by
   have e:(u::a).length+q=(a.length+q)+ 1 :=by simp only [List.length_cons];omega
   rw [e]
   simp only [List.cons_append,fq,adb a l q cs]
theorem aww {α:Type} {xs cs0 vs:List α} {p q:Nat} (h:(xs.drop p).take cs0.length=cs0) (aN:p+cs0.length<=xs.length) (aT:q+vs.length<=cs0.length):xs.take p++fq cs0 q vs++xs.drop (p+cs0.length)=fq xs (p+q) vs:=by
 have ad:xs=xs.take p++(cs0++xs.drop (p+cs0.length)):=by
  have I:xs.drop p=cs0++xs.drop (p+cs0.length):=by
   rw [<-List.drop_drop]
   have:=(List.take_append_drop cs0.length (xs.drop p)).symm
   rwa [h] at this
  rw [<-I,List.take_append_drop]
 have aq:(xs.take p).length=p:=by rw [List.length_take];omega
 have e:=adb (xs.take p) (cs0++xs.drop (p+cs0.length)) q vs
 rw [<-ad,aq,ada _ _ _ _ aT,<-List.append_assoc] at e
 exact e.symm
theorem ZW (a3:c8 E) (hm:Mem E.T W M0 X bl ρ w) {o:Oper} {t sz i t2 g k q:Nat} {l:List (E.T.El t2)} {x y:Operand} {j:Int} {d d':E.T.El t2} {u:aF E.T.El} {bl':List (aC E.T.El)} {cs:List (aF E.T.El)} {h:Value} {A:Option Addr} {c m:Nat}
 (ao:∀ w,(Go.sizeOf t).run E.P w= .ok sz w) (I:uu (cellsOf u)=true) (aa:Nat.beq (cellsOf u).length sz=true) (hi:bl[i]? =some (.r t2 g k l)) (bC:ρ[i]? =some h) (aM:idx l j=some d) (hle:q+(cellsOf u).length<=((E.T.e t2).cs d).length)
 (eZ:Mw bl' i=true) (ov:mx bl (fq ((E.T.e t2).cs d) q (cellsOf u))=(bl',cs)) (fN:(E.T.e t2).gT cs=some d') (dl:h= .slice A m c) (av:o.op= .store t x y) (ad:a.eval x= .pointer (some ⟨dk A,j.toNat*(E.T.ty t2).size+q,none⟩)) (hu:ar E.T (bh X bl ρ w) w ρ bl u (a.eval y)) :
 gG E o a W M0 X bl ρ w ⟨none,bl'.set i (.r t2 g (k+ 1) (l.set j.toNat d')),[i]⟩:=by
 have td:=nf hu
 have zH:=td.len
 obtain ⟨cj,bH,xs,ak,al,aV⟩:=hm.ok i _ _ hi bC
 rw [dl] at ak
 simp only [Value.slice.injEq] at ak
 obtain ⟨rfl,rfl,rfl⟩:=ak
 obtain ⟨acz,ru,wu⟩:=km aM
 obtain ⟨dV,rfl,ta,hc,kh⟩:=r1 (by omega) (dl ▸ al)
 obtain ⟨cs0,bk,bF⟩:=G2 (E.T.ty t2) aV wu
 have abE:=a3.tb.cells (ρ:=ρ) (bl:=bl) bk
 have pP:=abE.len
 have KC:=(E.T.ty t2).len bk
 obtain ⟨ey,t1,v1⟩:=J1 hm ov (abE.lay td hle)
 have fY:=a3.tb.gT _ _ _ fN _ _ _ _ _ v1
 have rr:=uz _ aV
 have hbound:j.toNat*(E.T.ty t2).size+q+(a.eval y).cells.toList.length<=xs.length:=by
  rw [rr,zH]
  exact adq ru (by omega)
 obtain ⟨w',bg,bf,cc⟩:=afs (E:=E) (a:=a) (v:=a.eval y) (vs:=(a.eval y).cells.toList) (by simp) ao (by rw [zH];exact aa) (GC I td) (show 0 <l.length by omega) (dl ▸ al) hbound av (by simpa [dk] using ad) rfl
 have cR:bl'[i]? =some (.r t2 g k l):=by
  rcases J0 ov i with e | ⟨t',g',k',l',bS,dw⟩
  · exact e.trans hi
  · unfold Mw at eZ
    rw [cW,dw] at eZ
    cases eZ
 have aD:bA (aC.r t2 g k l) h= [dV]:=by subst dl;simpa [bA] using kh _
 have auf:=KJ (B':=aC.r t2 g (k+ 1) (l.set j.toNat d')) (w':=w') (o:=o) (a:=a) ey cR bC (by rw [aD];exact bf) rfl ⟨rfl,rfl,Nat.le_succ _,fun e=>absurd e (by simp [gB])⟩ bg (fun aO=>by
  refine ⟨some ⟨dV,0,none⟩,c,fq xs (j.toNat*(E.T.ty t2).size+q) (a.eval y).cells.toList,by subst dl;simp,by subst dl;simpa using cc,?_⟩
  have atT:dS (E.T.ty t2) (bh X (bl'.set i (aC.r t2 g (k+ 1) (l.set j.toNat d'))) ρ w') w' xs l:=mR _ (t1.trans aO).F aV
  have oy:=(E.T.ty t2).law aO.F fY
  have dA:=Va oy atT ru
  have e:xs.take (j.toNat*(E.T.ty t2).size)++fq cs0 q (a.eval y).cells.toList++xs.drop (j.toNat*(E.T.ty t2).size+(E.T.ty t2).size)=fq xs (j.toNat*(E.T.ty t2).size+q) (a.eval y).cells.toList:=by
   have hd:=aaH bF
   have h2:=aww (q:=q) (vs:=(a.eval y).cells.toList) hd (by rw [KC,rr];have:=adq (o:=0) (k:=(E.T.ty t2).size) (sz:=(E.T.ty t2).size) ru (by omega);omega) (by omega)
   rw [KC] at h2
   exact h2
  rw [<-e]
  exact dA)
 refine gG.first t1 (fun dm Fz B' g' GN ag ax aT=>?_) auf
 simp only [List.mem_singleton] at Fz
 subst Fz
 exact ⟨_,hi,by rw [cR] at ag;cases ag;exact aT⟩
end
end bn
namespace bn
open Go Go.RowKit au J
section
variable {E:Env} {W w w':World} {M0:List Nat} {X:Nat->Prop} {n:cE} {f:cu E.T.El} {bl:List (aC E.T.El)} {ρ:List Value} {a:Act} {cur:List (Nat × Bool)}
theorem aq7 (a3:c8 E) (hm:Mem E.T W M0 X bl ρ w) {o:Oper} {t:Nat} {x y:Operand} {p u:aF E.T.El} {e:ek E.T.El} (h:(PU E bl t p u).out e) (av:o.op= .store t x y)
 (aN:ar E.T (bh X bl ρ w) w ρ bl p (a.eval x)) (hu:ar E.T (bh X bl ρ w) w ρ bl u (a.eval y)):gG E o a W M0 X bl ρ w e:=by
 unfold PU at h
 split at h
 · rename_i b sz aq I
   have ao:=(Gc aq).2
   split at h
   · rename_i aa
     have td:=nf hu
     have zH:=td.len
     split at h
     · rename_i i eI
       split at h
       · rename_i ty cs hi
         rw [cW] at hi
         split at h
         · rename_i ag
           have h:(⟨none,bl.set i (.c ty (fq cs eI (cellsOf u))),[i]⟩:ek E.T.El)=e:=h
           subst h
           have ag:=Nat.le_of_ble_eq_true ag
           simp only [ar] at aN
           obtain ⟨g,ax,atQ⟩:=aN
           obtain ⟨g',vs,ak,al,aV⟩:=hm.ok i _ _ hi ax
           simp only [Value.pointer.injEq,Option.some.injEq,Addr.mk.injEq,and_true] at ak
           subst ak
           have atw:=aV.len
           obtain ⟨w',bg,bf,cc⟩:=XB (tb:=ty) (cs:=vs) (v:=a.eval y) (vs:=(a.eval y).cells.toList) (by simp) ao (by rw [zH];exact aa) (GC I td) (by rw [zH,atw];exact Nat.ble_eq_true_of_le ag) (show (a7.dU g ty vs).ok w from al) av atQ rfl
           refine KJ (B':=aC.c ty (fq cs eI (cellsOf u))) hm hi ax (by simpa [bA,bn.ag] using bf) rfl ⟨rfl,rfl,Nat.le_refl _,fun _=>rfl⟩ bg (fun aO=>⟨g,au.lay vs eI (a.eval y).cells.toList,rfl,cc,?_⟩)
           rw [KY]
           exact (aO.vs aV).lay (aO.vs td) ag
         · exact h.elim
       · exact h.elim
     · rename_i i g k t' j d eI
       split at h
       · rename_i t2 bG bf l hi
         rw [cW] at hi
         simp only [ar] at aN
         obtain ⟨_,aM,bC,hle,ah⟩:=aN
         rw [hi] at ah
         split at h
         · rename_i ax aj
           have ax:=Nat.eq_of_beq_eq_true ax
           have aj:=Nat.eq_of_beq_eq_true aj
           subst ax;subst aj
           obtain ⟨⟨A,m,c,bk,bF,b1,gy⟩,ayN,T0⟩:=ah rfl
           obtain ⟨l',cD,dM⟩:=T0 rfl
           split at h
           · rename_i bl' cs aG8 ov aGX Fl
             simp only [iy,Option.some.injEq,Sigma.mk.injEq] at cD
             obtain ⟨fS,cD⟩:=cD
             subst fS
             have cD:=eq_of_heq cD
             subst cD
             split at h
             · rename_i d' fN eZ
               have h:(⟨none,bl'.set i (.r t2 g (k+ 1) (l.set j.toNat d')),[i]⟩:ek E.T.El)=e:=h
               subst h
               exact ZW a3 hm ao I aa hi bC dM (Nat.le_of_ble_eq_true Fl) eZ ov fN bk av (by simpa [iz] using gy) hu
             · exact h.elim
           · exact h.elim
         · rename_i ax aj
           have ax:=Nat.eq_of_beq_eq_true ax
           subst ax
           obtain ⟨⟨A,m,c,bk,bF,b1,gy⟩,_⟩:=ah rfl
           obtain ⟨d1,dM,h⟩:=h
           dsimp only at h
           split at h
           · rename_i bl' cs ov Fl
             split at h
             · rename_i d' fN eZ
               have h:(⟨none,bl'.set i (.r t2 g (bf+ 1) (l.set j.toNat d')),[i]⟩:ek E.T.El)=e:=h
               subst h
               exact ZW a3 hm ao I aa hi bC dM (Nat.le_of_ble_eq_true Fl) eZ ov fN bk av (by simpa [iz] using gy) hu
             · exact h.elim
           · exact h.elim
         · exact h.elim
       · exact h.elim
     · rename_i i g eI
       split at h
       · rename_i t2 s2 bG cs hi
         rw [cW] at hi
         split at h
         · rename_i ag
           simp only [Bool.and_eq_true] at ag
           have h:(⟨none,bl.set i (.k t2 s2 bG (fq cs eI (cellsOf u))),[i]⟩:ek E.T.El)=e:=h
           subst h
           simp only [ar] at aN
           obtain ⟨_,aM,bC,hle,ah⟩:=aN
           rw [hi] at ah
           have ax:=Nat.eq_of_beq_eq_true ag.1
           subst ax
           obtain ⟨A,m,c,bk,bF,b1⟩:=ah rfl
           obtain ⟨cj,eU,bH,xs,ak,al,aV⟩:=hm.ok i _ _ hi bC
           rw [ak] at bk
           simp only [Value.slice.injEq] at bk
           obtain ⟨rfl,rfl,rfl⟩:=bk
           subst ak
           have abD:=Nat.le_of_ble_eq_true ag.2
           have atx:=aV.len
           obtain ⟨dV,rfl,ta,hc,kh⟩:=r1 bF al
           obtain ⟨w',bg,bf,cc⟩:=afs (E:=E) (a:=a) (v:=a.eval y) (vs:=(a.eval y).cells.toList) (by simp) ao (by rw [zH];exact aa) (GC I td) bF al (by rw [zH,atx];exact abD) av (by simpa [dk] using b1) rfl
           have aD:bA (aC.k t2 s2 g cs) (.slice (some ⟨dV,0,none⟩) eU bH)= [dV]:=by simpa [bA] using kh _
           exact KJ (B':=aC.k t2 s2 g (fq cs eI (cellsOf u))) hm hi bC (by rw [aD];exact bf) rfl ⟨rfl,rfl,Nat.le_refl _,fun _=>rfl⟩ bg (fun aO=>⟨_,_,_,_,rfl,cc,(aO.vs aV).lay (aO.vs td) abD⟩)
         · exact h.elim
       · exact h.elim
     · exact h.elim
   · exact h.elim
 · exact h.elim
theorem Z1 {F:Nat->Prop} {kt vt:Nat} {K:hW (E.T.El kt)} {k:E.T.El kt} {v:E.T.El vt} {u:Value} (hu:zf E.T F w vt v u):∀ {es:List MapEntry} {d:List (E.T.El kt × E.T.El vt)} {p:Nat},iO E.T F w K es d->i' K d k=some p->iO E.T F w K (es.modify p fun e=>{ e with key:=K.enc k,val:=u }) (rI K d k v)
 | [],[],_,_,aN=>by simp [i',nG] at aN
 | [],_::_,_,h,_=>h.elim
 | _::_,[],_,h,_=>h.elim
 | e::es,q::d,p,h,aN=>by
   obtain ⟨I,aa,aw⟩:=h
   by_cases aT:q.1 =k
   · simp only [i',nG,if_pos aT,Option.some.injEq] at aN
     subst aN
     simp only [rI,hg,if_pos aT,List.modify_zero_cons]
     exact ⟨rfl,hu,aw⟩
   · simp only [i',nG,if_neg aT,Option.map_eq_some_iff] at aN
     obtain ⟨rV,wi,rfl⟩:=aN
     simp only [rI,hg,if_neg aT,List.modify_succ_cons]
     exact ⟨I,aa,Z1 hu aw wi⟩
theorem Z0 {F:Nat->Prop} {kt vt:Nat} {K:hW (E.T.El kt)} {k:E.T.El kt} {v:E.T.El vt} {u:Value} {c:Nat} (hu:zf E.T F w vt v u):∀ {es:List MapEntry} {d:List (E.T.El kt × E.T.El vt)},iO E.T F w K es d->i' K d k=none->iO E.T F w K (es++[{ key:=K.enc k,val:=u,born:=c }]) (rI K d k v)
 | [],[],_,_=>⟨rfl,hu,trivial⟩
 | [],_::_,h,_=>h.elim
 | _::_,[],h,_=>h.elim
 | e::es,q::d,h,aN=>by
   obtain ⟨I,aa,aw⟩:=h
   by_cases aT:q.1 =k
   · simp [i',nG,if_pos aT] at aN
   · simp only [i',nG,if_neg aT,Option.map_eq_none_iff] at aN
     simp only [rI,hg,if_neg aT,List.cons_append]
     exact ⟨I,aa,Z0 hu aw aN⟩
theorem ZZ {F:Nat->Prop} {kt vt:Nat} {K:hW (E.T.El kt)} {k:E.T.El kt}:∀ {es:List MapEntry} {d:List (E.T.El kt × E.T.El vt)} {p:Nat},iO E.T F w K es d->i' K d k=some p-> ∃ e,es[p]? =some e/\e.key=K.enc k
 | [],[],_,_,aN=>by simp [i',nG] at aN
 | [],_::_,_,h,_=>h.elim
 | _::_,[],_,h,_=>h.elim
 | e::es,q::d,p,h,aN=>by
   obtain ⟨I,aa,aw⟩:=h
   by_cases aT:q.1 =k
   · simp only [i',nG,if_pos aT,Option.some.injEq] at aN
     subst aN
     exact ⟨e,rfl,by rw [I,aT]⟩
   · simp only [i',nG,if_neg aT,Option.map_eq_some_iff] at aN
     obtain ⟨rV,wi,rfl⟩:=aN
     simpa using ZZ aw wi
def JN (E:Env) (bl:List (aC E.T.El)) (t:Nat) (u k v:aF E.T.El):D (ek E.T.El):=match u,mapOf E.P t with
 | .m i,some (F8,_)=>match nth bl i with
   | some (.m kt vt d)=>match (E.T.e kt).key with
     | some K=>match mx bl (cellsOf v) with
       | (bl',cs)=>match Ju (E.P.underlying F8) K.desc,(E.T.e kt).gT (cellsOf k),(E.T.e vt).gT cs,(match kn k with | true=>(E.T.e kt).agg | false=>!(E.T.e kt).agg) && (match kn v with | true=>(E.T.e vt).agg | false=>!(E.T.e vt).agg) with
         | true,some key,some val,true=>.ok ⟨none,bl'.set i (.m kt vt (rI K d key val)),[i]⟩
         | _,_,_,_=>.no
     | none=>.no
   | _=>.no
 | _,_=>.no
theorem aaD (a3:c8 E) (hm:Mem E.T W M0 X bl ρ w) {o:Oper} {t:Nat} {x y z:Operand} {u k v:aF E.T.El} {e:ek E.T.El} (h:(JN E bl t u k v).out e) (av:o.op= .mapUpdate t x y z\/o.op= .insert t x y z)
 (ad:ar E.T (bh X bl ρ w) w ρ bl u (a.eval x)) (hy:ar E.T (bh X bl ρ w) w ρ bl k (a.eval y)) (ai:ar E.T (bh X bl ρ w) w ρ bl v (a.eval z)):gG E o a W M0 X bl ρ w e:=by
 unfold JN at h
 split at h
 · rename_i i F8 aHw atB
   split at h
   · rename_i kt vt d hi
     rw [cW] at hi
     split at h
     · rename_i K cG
       split at h
       rename_i bl' cs ov
       split at h
       · rename_i key val aM RN rq s8
         have h:(⟨none,bl'.set i (.m kt vt (rI K d key val)),[i]⟩:ek E.T.El)=e:=h
         subst h
         simp only [Bool.and_eq_true] at s8
         simp only [ar] at ad
         obtain ⟨r,aE,ju⟩:=ad
         have FG:a.eval y=K.enc key:=by
          have ak:=a3.tb.gT _ _ _ RN _ _ _ _ _ (nf hy)
          exact (OY hy s8.1).trans (a3.tb.key _ _ cG _ _ _ _ ak)
         obtain ⟨ey,t1,v1⟩:=J1 hm ov (nf ai)
         have fY:=a3.tb.gT _ _ _ rq _ _ _ _ _ v1
         have cR:bl'[i]? =some (.m kt vt d):=by
          rcases J0 ov i with e | ⟨t',g',k',l',bS,dw⟩
          · exact e.trans hi
          · rw [hi] at bS;cases bS
         have acf:zf E.T (bh X bl' ρ w) w vt val (a.eval z):=⟨_,fY,OY ai s8.2⟩
         obtain ⟨eV,ak,X9,zw,es,clock,bk,bF,b1,gy⟩:=ey.ok i _ _ cR aE
         simp only [Value.map.injEq,Option.some.injEq] at ak
         subst ak
         rw [cG] at zw
         cases zw
         have hu:=S7 atB
         have ts:=Zh aM
         have bE:r <w.heap.size:=(Array.getElem?_eq_some_iff.1 bk).1
         have im:∀ eI:Obj,bp [r] w { w with heap:=w.heap.setIfInBounds r eI }:=fun eI=>⟨rfl,rfl,rfl,by simp,fun q _ aJ=>by
          show (w.heap.setIfInBounds r eI)[q]? =_
          rw [Array.getElem?_setIfInBounds,if_neg (fun e=>aJ (by simp [e]))]⟩
         refine gG.first t1 (fun dm Fz B' g' GN ag ax aT=>?_) ?_
         · simp only [List.mem_singleton] at Fz
           subst Fz
           rw [cR] at ag
           cases ag
           exact ⟨_,hi,aT⟩
         have fin:∀ (zp:Array MapEntry) (bH:Nat),pr E.P o a w { w with heap:=w.heap.setIfInBounds r (.map zp bH) } ->iO E.T (bh X bl' ρ w) w K zp.toList (rI K d key val)->(zp.toList.map (·.born)).Pairwise (· < ·)->(∀ e ∈ zp.toList,e.born <bH) ->
          gG E o a W M0 X bl' ρ w ⟨none,bl'.set i (.m kt vt (rI K d key val)),[i]⟩:=fun zp bH Sc I aa aw=>by
          refine KJ (B':=aC.m kt vt (rI K d key val)) (w':={ w with heap:=w.heap.setIfInBounds r (.map zp bH) }) ey cR aE (by simpa [bA,bn.ag] using im _) rfl ⟨rfl,rfl,Nat.le_refl _,fun _=>rfl⟩ Sc (fun aO=>⟨r,rfl,K,cG,zp,bH,by simp [bE],I.law aO.F,aa,aw⟩)
         rcases Vr (vt:=vt) key ts bF w with ⟨f1,f2,f3⟩ | ⟨p,ajz,DC,f1,f2,f3,f4⟩
         · refine fin (es.push { key:=K.enc key,val:=a.eval z,born:=clock }) (clock+ 1) ?_ ?_ ?_ ?_
           · rcases av with av | av <;>
             · simp only [pr,execOp,av,ju,FG,Instr.mapUpdate,Sem.run_bind,run_underlying hu,Result.andThen_ok,MapKept.run_getObj_map bk,@kJ.check _ K.dec K.pU E.P w false F8 key ts,f3,MapKept.run_setObj_map _ bk]
               rfl
           · simpa using Z0 acf bF f2
           · simp only [Array.toList_push,List.map_append,List.map_cons,List.map_nil,List.pairwise_append]
             refine ⟨b1,by simp,fun b ag c hc=>?_⟩
             obtain ⟨e,he,rfl⟩:=List.mem_map.1 ag
             simp only [List.mem_singleton] at hc
             subst hc
             exact gy e he
           · intro e he
             simp only [Array.toList_push,List.mem_append,List.mem_singleton] at he
             rcases he with he | rfl
             · exact Nat.lt_succ_of_lt (gy e he)
             · exact Nat.lt_succ_self _
         · obtain ⟨e,he,as1⟩:=ZZ (k:=key) bF f2
           have asZ:es[p]? =some e:=by simpa using he
           have Kj:((es.modify p fun e=>{ e with key:=K.enc key,val:=a.eval z }).toList.map (·.born))=es.toList.map (·.born):=by
            rw [Array.toList_modify]
            apply List.ext_getElem?
            intro i
            simp only [List.getElem?_map,List.getElem?_modify]
            cases hi:es.toList[i]? with
            | none=>simp
            | some e'=>by_cases Kr:p=i <;> simp [Kr]
           refine fin (es.modify p fun e=>{ e with key:=K.enc key,val:=a.eval z }) clock ?_ ?_ ?_ ?_
           · have RO:(Instr.keyThatStays e.key (K.enc key)).run E.P w= .ok (K.enc key) w:=by
              rw [as1];simp only [Instr.keyThatStays,@kJ.bits _ K.dec K.pU,if_true];rfl
             rcases av with av | av <;>
             · simp only [pr,execOp,av,ju,FG,Instr.mapUpdate,Sem.run_bind,run_underlying hu,Result.andThen_ok,MapKept.run_getObj_map bk,@kJ.check _ K.dec K.pU E.P w false F8 key ts,f4,asZ,Option.map_some,Option.getD_some,RO,MapKept.run_setObj_map _ bk]
               rfl
           · rw [Array.toList_modify];exact Z1 acf bF f2
           · rw [Kj];exact b1
           · intro ak Rr
             have:ak.born ∈ es.toList.map (·.born):=by rw [<-Kj];exact List.mem_map.2 ⟨ak,Rr,rfl⟩
             obtain ⟨al,as0,heq⟩:=List.mem_map.1 this
             rw [<-heq];exact gy al as0
       · exact h.elim
     · exact h.elim
   · exact h.elim
 · exact h.elim
end
end bn
namespace bn
open Go Go.RowKit au J
section
variable {P:Program} {w w':World}
def BQ (w:World) (sz m:Nat) (A:Option Addr) (news:List Value):Prop:=(m= 0 /\news= [])\/ ∃ dY,A=some dY/\news.length=m*sz/\(∀ j u,news[j]? =some u->w.cell? (dY.add j)=some u)/\ ∀ u ∈ news,u.oneCell'=true
theorem aBn {t ty e:TypeId} {i:TypeInfo} (aO:P.underlying t=some (.slice e)) (hi:P.info? e=some i) (A c7:Option Addr) (n c c2:Nat) (hle:n<=c):(Builtin.append_ #[t,t] ty #[.slice A n c,.slice c7 0 c2]).run P w= .ok (.slice A n c) w:=by
 cases A <;> cases c7 <;> simp [Builtin.append_,run_underlying aO,Go.sizeOf,typeInfo,hi,Builtin.lenOf,Builtin.firstCells,hle,storeCells,loadCells,loadCellsFrom]
theorem rowIs.short {t sz n c k:Nat} {A:Option Addr} {xs:List Value} (e:rowIs w t sz (.slice A n c) n xs) (aj:k<=n):rowIs w t sz (.slice A k c) k (xs.take (k*sz)):=by
 have aq:=e.len
 have RO:k*sz<=n*sz:=Nat.mul_le_mul_right sz aj
 rcases e with e | ⟨rfl,rfl,cj,e⟩
 · rcases e.2 with ⟨I,aQ⟩ | ⟨g,cap,cur,I,aa,aw,bi,dA,hd,h2⟩
   · simp only [Value.slice.injEq] at I
     obtain ⟨rfl,rfl,rfl⟩:=I
     have:k= 0 :=by omega
     subst this
     exact .inl ⟨by simp,.inl ⟨rfl,rfl⟩⟩
   · simp only [Value.slice.injEq] at I
     obtain ⟨rfl,_,rfl⟩:=I
     refine .inl ⟨by rw [List.length_take];omega,.inr ⟨g,c,cur,rfl,aa,aw,by omega,dA,hd,?_⟩⟩
     rw [<-h2,List.take_take,Nat.min_eq_left RO]
 · have:k= 0 :=by omega
   subst this
   simp only [Value.slice.injEq] at e
   obtain ⟨rfl,_,rfl⟩:=e
   exact .inr ⟨rfl,by simp,A,rfl⟩
theorem Ys {t ty e:TypeId} {i:TypeInfo} {z:Value} {bytes sz:Nat} (aO:P.underlying t=some (.slice e)) (hi:P.info? e=some i) (ai:i.zero=some z) (d_:i.size=sz) (mB:i.bytes=bytes) (Sg:z.cells.size=sz) (gS:0 <sz)
 {A c7:Option Addr} {n c m c2:Nat} {xs news:List Value} (aE:rowIs w e sz (.slice A n c) n xs) (ao:BQ w sz m c7 news) (Cm:n+m<=maxLen) (ag:(n+m)*bytes<= 140737488355328) :
 ∃ cj bH w',(Builtin.append_ #[t,t] ty #[.slice A n c,.slice c7 m c2]).run P w= .ok (.slice cj (n+m) bH) w'/\rowIs w' e sz (.slice cj (n+m) bH) (n+m) (xs++news)/\bp (bn.ag (.slice A n c)) w w'/\ ∀ k ∈ bn.ag (.slice cj (n+m) bH),k ∈ bn.ag (.slice A n c)\/(w.heap.size<=k/\k <w'.heap.size):=by
 have ra:=aE.cap
 rcases Nat.eq_zero_or_pos m with aQ | hm
 · subst aQ
   have aJ:news= []:=by
    rcases ao with ⟨_,h⟩ | ⟨_,_,h,_⟩
    · exact h
    · exact List.eq_nil_of_length_eq_zero (by simpa using h)
   subst aJ
   exact ⟨A,c,w,aBn aO hi A c7 n c c2 ra.1,by simpa using aE,bp.refl _ _,fun k aj=>.inl aj⟩
 · obtain ⟨dY,rfl,aq,il,zK⟩:∃ dY,c7=some dY/\news.length=m*sz/\(∀ j u,news[j]? =some u->w.cell? (dY.add j)=some u)/\ ∀ u ∈ news,u.oneCell'=true:=by
    rcases ao with ⟨h,_⟩ | h
    · omega
    · exact h
   have grow:∀ {e4:Value} {w':World} {b:Nat},w'.ownsRow b e sz e4 (n+m) (xs++news)-> ∃ g cap cur,e4= .slice (some ⟨g,0,none⟩) (n+m) cap/\b<=g/\w'.heap[g]? =some (.cells cur e (0,0))/\n+m<=cap:=fun {e4 w' b} h=>by
    rcases h.2 with ⟨_,aQ⟩ | ⟨g,cap,cur,I,aa,aw,bi,_⟩
    · omega
    · exact ⟨g,cap,cur,I,aa,aw,bi⟩
   have Yz:∀ {e4:Value} {w':World} {b:Nat},w'.ownsRow b e sz e4 (n+m) (xs++news)->w'.ownsRow 0 e sz e4 (n+m) (xs++news):=fun {e4 w' b} h=>⟨h.1,h.2.imp id fun ⟨g,cap,cur,bk,_,b1⟩=>⟨g,cap,cur,bk,Nat.zero_le _,b1⟩⟩
   rcases Nat.eq_zero_or_pos c with hc | hc
   · subst hc
     have aJ:n= 0 :=by omega
     subst aJ
     have ad:xs= []:=List.eq_nil_of_length_eq_zero (by rw [aE.len];simp)
     subst ad
     have q_:bn.ag (.slice A 0 0)= []:=by cases A <;> rfl
     rw [q_]
     cases A with
     | none=>
       obtain ⟨e4,w',bg,bf,cc,_,ny⟩:=run_append_own_at (P:=P) w w.heap.size t ty e i z sz bytes aO hi ai d_ mB Sg gS (.slice none 0 0) 0 [] ⟨by simp,.inl ⟨rfl,rfl⟩⟩ dY m c2 news aq il zK Cm ag (Nat.le_refl _)
       obtain ⟨g,cap,cur,rfl,bF,b1,gy⟩:=grow (b:=w.heap.size) bf
       refine ⟨_,_,w',bg,.inl (Yz bf),bp.grown cc,fun k aj=>?_⟩
       right
       have:k=g:=by
        cases cap with
        | zero=>simp [bn.ag] at aj
        | succ q=>simpa [bn.ag] using aj
       subst this
       exact ⟨bF,(Array.getElem?_eq_some_iff.1 b1).1⟩
     | some b=>
       obtain ⟨e4,w',bg,bf,cc⟩:=run_append_arg_grows (P:=P) w t ty e i z sz bytes aO hi ai d_ mB Sg gS b 0 0 [] (by simp) (fun j u hu=>by simp at hu) dY m c2 news aq il (by omega) Cm ag
       obtain ⟨g,cap,cur,rfl,bF,b1,gy⟩:=grow (b:=w.heap.size) bf
       refine ⟨_,_,w',bg,.inl (Yz bf),bp.grown cc,fun k aj=>?_⟩
       right
       have:k=g:=by
        cases cap with
        | zero=>simp [bn.ag] at aj
        | succ q=>simpa [bn.ag] using aj
       subst this
       exact ⟨bF,(Array.getElem?_eq_some_iff.1 b1).1⟩
   · obtain ⟨vY,rfl⟩:=ra.2.2.2 hc
     have kj:w.ownsRow 0 e sz (.slice (some ⟨vY,0,none⟩) n c) n xs:=by
      rcases aE with h | ⟨_,_,cj,h⟩
      · exact h
      · simp only [Value.slice.injEq] at h;omega
     obtain ⟨e4,w',bg,bf,cc,_,ny⟩:=run_append_own_at (P:=P) w 0 t ty e i z sz bytes aO hi ai d_ mB Sg gS (.slice (some ⟨vY,0,none⟩) n c) n xs kj dY m c2 news aq il zK Cm ag (Nat.zero_le _)
     obtain ⟨g,cap,cur,rfl,bF,b1,gy⟩:=grow (b:=0) bf
     have Fk:bn.ag (.slice (some ⟨vY,0,none⟩) n c)= [vY]:=by
      cases c with
      | zero=>omega
      | succ c=>rfl
     rw [Fk]
     refine ⟨_,_,w',bg,.inl bf,bp.grown cc,fun k aj=>?_⟩
     have:k=g:=by
      cases cap with
      | zero=>simp [bn.ag] at aj
      | succ q=>simpa [bn.ag] using aj
     subst this
     rcases ny with dw | dw
     · left
       simp only [Value.ownBlock,Option.some.injEq] at dw
       simp [dw]
     · right
       simp only [Value.ownBlock,Option.some.injEq] at dw
       rw [dw]
       refine ⟨Nat.le_refl _,?_⟩
       rw [<-dw]
       exact (Array.getElem?_eq_some_iff.1 b1).1
end
def q2 (P:Program) (t:TypeId):Option (Nat × Nat × Nat):=match P.underlying t with
 | some (.slice e)=>match P.info? e with
   | some i=>match i.zero with
     | some z=>match Nat.beq z.cells.size i.size && Nat.blt 0 i.size && Nat.blt 0 i.bytes with
       | true=>some (e,i.size,i.bytes)
       | false=>none
     | none=>none
   | none=>none
 | _=>none
theorem vO {P:Program} {t e sz b2:Nat} (h:q2 P t=some (e,sz,b2)):P.underlying t=some (.slice e)/\ ∃ i z,P.info? e=some i/\i.zero=some z/\i.size=sz/\i.bytes=b2/\z.cells.size=sz/\ 0 <sz/\ 0 <b2:=by
 unfold q2 at h
 split at h
 · rename_i e' I
   split at h
   · rename_i i aa
     split at h
     · rename_i z aw
       split at h
       · rename_i bi
         simp only [Option.some.injEq,Prod.mk.injEq] at h
         obtain ⟨rfl,rfl,rfl⟩:=h
         simp only [Bool.and_eq_true] at bi
         exact ⟨I,i,z,aa,aw,rfl,rfl,Nat.eq_of_beq_eq_true bi.1.1,Nat.le_of_ble_eq_true bi.1.2,Nat.le_of_ble_eq_true bi.2⟩
       · cases h
     · cases h
   · cases h
 · cases h
def vI {El:Nat->Type} (t t':Nat) (l:List (El t)):Option (List (El t')):=match Nat.decEq t t' with
 | .isTrue h=>some (h ▸ l)
 | .isFalse _=>none
def CL {El:Nat->Type} {t:Nat} (e:b6 El t):List (List (aF El))->Option (List (El t))
 | []=>some []
 | c::r=>match e.gT c,CL e r with
   | some d,some ds=>some (d::ds)
   | _,_=>none
def B1 {α:Type} (sz:Nat):Nat->List α->List (List α)
 | 0,_=>[]
 | n+ 1,l=>l.take sz::B1 sz n (l.drop sz)
def Hu (E:Env) (bl:List (aC E.T.El)) (t:Nat):aF E.T.El->Option (List (E.T.El t))
 | .s t' l=>vI t' t l
 | .q t' l=>vI t' t l
 | .p (.slice none 0 0)=>some []
 | .p (.slice (some _) 0 _)=>some []
 | .r j g=>match nth bl j with
   | some (.r t' bG _ l)=>match Nat.beq g bG with
     | true=>vI t' t l
     | false=>none
   | some (.k _ sz bG cs)=>match Nat.beq g bG && Nat.beq sz (E.T.ty t).size && Nat.blt 0 sz with
     | true=>CL (E.T.e t) (B1 sz (cs.length / sz) cs)
     | false=>none
   | _=>none
 | .v j g lo hi=>match nth bl j with
   | some (.r t' bG _ l)=>match Nat.beq g bG with
     | true=>vI t' t ((l.take hi.toNat).drop lo.toNat)
     | false=>none
   | _=>none
 | _=>none
section
variable {E:Env} {W w w':World} {M0:List Nat} {X:Nat->Prop} {n:cE} {f:cu E.T.El} {bl:List (aC E.T.El)} {ρ:List Value} {a:Act} {cur:List (Nat × Bool)}
theorem BZ {El:Nat->Type} {t t':Nat} {l:List (El t)} {l':List (El t')} (h:vI t t' l=some l'):∃ e:t=t',e ▸ l=l':=by
 unfold vI at h
 split at h
 · rename_i e _
   simp only [Option.some.injEq] at h
   exact ⟨e,h⟩
 · cases h
theorem Sl (a3:c8 E) {F:Nat->Prop} {t sz:Nat}:∀ (n:Nat) {cs:List (aF E.T.El)} {vs:List Value} {l:List (E.T.El t)},a4 E.T F w ρ bl cs vs->vs.length=n*sz->CL (E.T.e t) (B1 sz n cs)=some l->dS (E.T.ty t) F w vs l/\l.length=n
 | 0,cs,vs,l,h,aq,hi=>by
   simp only [B1,CL,Option.some.injEq] at hi
   subst hi
   exact ⟨List.eq_nil_of_length_eq_zero (by simpa using aq),rfl⟩
 | n+ 1,cs,vs,l,h,aq,hi=>by
   simp only [B1,CL] at hi
   split at hi
   · rename_i d ds I aa
     simp only [Option.some.injEq] at hi
     subst hi
     have bk:=a3.tb.gT _ _ _ I _ _ _ _ _ (a4.take sz h)
     obtain ⟨bF,b1⟩:=Sl a3 n (a4.drop sz h) (by rw [List.length_drop,aq,Nat.add_mul];omega) aa
     exact ⟨⟨vs.take sz,vs.drop sz,(List.take_append_drop sz vs).symm,bk,bF⟩,by simp [b1]⟩
   · cases hi
theorem afU {F:Nat->Prop} {t:Nat} {l:List (E.T.El t)} {A:Option Addr} {c:Nat} (h:(b4 (E.T.ty t)).rd F w [.slice A l.length c] l):∃ news,BQ w (E.T.ty t).size l.length A news/\dS (E.T.ty t) F w news l:=by
 obtain ⟨cj,bH,ak,al,aV,bS,dw⟩:=h
 simp only [List.cons.injEq,Value.slice.injEq,and_true,true_and] at ak
 obtain ⟨rfl,rfl⟩:=ak
 by_cases aq:l= []
 · subst aq
   exact ⟨[],.inl ⟨rfl,rfl⟩,rfl⟩
 · obtain ⟨dC,bG,xs,fK,iT⟩:=dw aq
   exact ⟨xs,.inr ⟨_,dC,uz _ fK,fun j u hu=>by rw [j9];exact iT j u hu,Dj _ fK⟩,fK⟩
theorem Vq {t sz n c:Nat} {A:Option Addr} {xs:List Value} (h:rowIs w t sz (.slice A n c) n xs) (I:∀ u ∈ xs,u.oneCell'=true):BQ w sz n A xs:=by
 rcases Nat.eq_zero_or_pos n with aQ | aQ
 · subst aQ
   exact .inl ⟨rfl,List.eq_nil_of_length_eq_zero (by rw [h.len];simp)⟩
 · obtain ⟨g,rfl,_,hc,_⟩:=r1 aQ h
   exact .inr ⟨_,rfl,h.len,fun j u hu=>by rw [j9];exact hc j u hu,I⟩
theorem afT (a3:c8 E) (hm:Mem E.T W M0 X bl ρ w) {t:Nat} {y:aF E.T.El} {l:List (E.T.El t)} {v:Value} (h:Hu E bl t y=some l) (ah:ar E.T (bh X bl ρ w) w ρ bl y v) :
 ∃ A c news,v= .slice A l.length c/\BQ w (E.T.ty t).size l.length A news/\dS (E.T.ty t) (bh X bl ρ w) w news l:=by
 unfold Hu at h
 split at h
 · obtain ⟨rfl,rfl⟩:=BZ h
   simp only [ar] at ah
   obtain ⟨A,c,rfl⟩:=lb _ ah
   obtain ⟨news,I,aa⟩:=afU ah
   exact ⟨A,c,news,rfl,I,aa⟩
 · obtain ⟨rfl,rfl⟩:=BZ h
   simp only [ar] at ah
   obtain ⟨A,c,rfl⟩:=lb _ ah.1
   obtain ⟨news,I,aa⟩:=afU ah.1
   exact ⟨A,c,news,rfl,I,aa⟩
 · simp only [Option.some.injEq] at h
   subst h
   simp only [ar] at ah
   exact ⟨none,0,[],ah,.inl ⟨rfl,rfl⟩,rfl⟩
 · simp only [Option.some.injEq] at h
   subst h
   simp only [ar] at ah
   exact ⟨_,_,[],ah,.inl ⟨rfl,rfl⟩,rfl⟩
 · rename_i j g
   split at h
   · rename_i t' bG k l' hi
     rw [cW] at hi
     split at h
     · rename_i ag
       obtain ⟨rfl,rfl⟩:=BZ h
       simp only [ar] at ah
       obtain ⟨_,aM,bk,bF,b1⟩:=ah
       rw [hi] at b1
       obtain ⟨A,c,xs,ak,al,aV⟩:=hm.ok j _ _ hi bk
       rw [b1 (Nat.eq_of_beq_eq_true ag),ak]
       exact ⟨A,c,xs,rfl,Vq (ak ▸ al) (Dj _ aV),aV⟩
     · cases h
   · rename_i t' sz bG cs hi
     rw [cW] at hi
     split at h
     · rename_i ag
       simp only [Bool.and_eq_true] at ag
       simp only [ar] at ah
       obtain ⟨_,aM,bk,bF,b1⟩:=ah
       rw [hi] at b1
       obtain ⟨A,m,c,xs,ak,al,aV⟩:=hm.ok j _ _ hi bk
       have d_:=Nat.le_of_ble_eq_true ag.2
       have hlen:=aV.len
       have aa:=al.len
       have aT:cs.length / sz=m:=by rw [<-hlen,aa];exact Nat.mul_div_cancel _ d_
       rw [aT] at h
       obtain ⟨cD,dM⟩:=Sl a3 m aV aa h
       rw [b1 (Nat.eq_of_beq_eq_true ag.1.1),ak,dM]
       have:=Vq (ak ▸ al) (Dj _ cD)
       rw [Nat.eq_of_beq_eq_true ag.1.2] at this
       exact ⟨A,c,xs,rfl,this,cD⟩
     · cases h
   · cases h
 · rename_i j g lo cR
   split at h
   · rename_i t' bG k l' hi
     rw [cW] at hi
     split at h
     · rename_i ag
       obtain ⟨rfl,rfl⟩:=BZ h
       simp only [ar] at ah
       obtain ⟨_,aM,bk,bF,b1⟩:=ah
       rw [hi] at b1
       obtain ⟨cj,eU,bH,B,dg,pV,l1,cB,ju,Kb,bO⟩:=b1 (Nat.eq_of_beq_eq_true ag)
       obtain ⟨A,c,xs,ak,al,aV⟩:=hm.ok j _ _ hi bk
       rw [ak] at dg al
       simp only [Value.slice.injEq] at dg
       obtain ⟨rfl,rfl,rfl⟩:=dg
       have hlen:((l'.take cR.toNat).drop lo.toNat).length=cR.toNat - lo.toNat:=by rw [List.length_drop,List.length_take];omega
       refine ⟨B,c - lo.toNat,(xs.take (cR.toNat*(E.T.ty t').size)).drop (lo.toNat*(E.T.ty t').size),by rw [hlen];exact ju,?_,rZ _ _ aV⟩
       have rf:=rZ lo.toNat cR.toNat aV
       rcases Int.lt_or_le lo cR with bE | Ko
       · right
         obtain ⟨dV,rfl⟩:=Dn al (by omega)
         obtain ⟨kP,Fx,_,hc,_⟩:=r1 (by omega) al
         cases Fx
         refine ⟨⟨dV,lo.toNat*(E.T.ty t').size,none⟩,by rw [bO bE];simp [j9,iz],uz _ rf,fun q u hu=>?_,Dj _ rf⟩
         rw [List.getElem?_drop,List.getElem?_take] at hu
         split at hu
         · rw [j9]
           have:=hc _ u hu
           simpa using this
         · cases hu
       · left
         have:cR.toNat - lo.toNat= 0 :=by omega
         have aQ:((l'.take cR.toNat).drop lo.toNat)= []:=List.eq_nil_of_length_eq_zero (by rw [hlen];exact this)
         refine ⟨by rw [aQ];rfl,?_⟩
         rw [aQ] at rf
         exact rf
     · cases h
   · cases h
 · cases h
end
end bn
namespace bn
open Go Go.RowKit au J
def Mz (E:Env) (bl:List (aC E.T.El)) (t:Nat):aF E.T.El->Option (Option (Nat × Nat) × List (E.T.El t))
 | .p (.slice none 0 0)=>some (none,[])
 | .q _ []=>some (none,[])
 | .r i g=>match nth bl i with
   | some (.r t' bG _ l)=>match Nat.beq g bG,vI t' t l with
     | true,some l'=>some (some (i,g),l')
     | _,_=>none
   | _=>none
 | .v i g (.ofNat 0) hi=>match nth bl i with
   | some (.r t' bG _ l)=>match Nat.beq g bG,vI t' t (l.take hi.toNat) with
     | true,some l'=>some (some (i,g),l')
     | _,_=>none
   | _=>none
 | _=>none
def xy (E:Env) (bl:List (aC E.T.El)) (e sz:Nat):aF E.T.El->Option (Option (Nat × Nat) × List (aF E.T.El))
 | .p (.slice none 0 0)=>some (none,[])
 | .q _ []=>some (none,[])
 | .r i g=>match nth bl i with
   | some (.k t' r8 bG cs)=>match Nat.beq g bG && Nat.beq t' e && Nat.beq r8 sz with
     | true=>some (some (i,g),cs)
     | false=>none
   | _=>none
 | _=>none
def PB (E:Env) (bl:List (aC E.T.El)) (t:Nat) (u v:aF E.T.El):D (ek E.T.El):=match q2 E.P t with
 | some (e,sz,b2)=>match Nat.beq sz (E.T.ty e).size,Mz E bl e u,Hu E bl e v with
   | true,some (none,_),some m=>.op (bK b2 [] m) fun l=>.ok ⟨some (.r bl.length 0),bl++[.r e 0 0 l],[]⟩
   | true,some (some (i,g),b),some m=>.op (bK b2 b m) fun l=>.ok ⟨some (.r i (g+ 1)),bl.set i (.r e (g+ 1) 0 l),[i]⟩
   | _,_,_=>match xy E bl e sz u,(match xy E bl e sz v with
    | some (_,m)=>match uu m with
      | true=>some m
      | false=>none
    | none=>none) with
     | some (none,_),some m=>.op (bK b2 [] (List.replicate (m.length / sz) ())) fun _=>.ok ⟨some (.r bl.length 0),bl++[.k e sz 0 m],[]⟩
     | some (some (i,g),b),some m=>.op (bK b2 (List.replicate (b.length / sz) ()) (List.replicate (m.length / sz) ())) fun _=>.ok ⟨some (.r i (g+ 1)),bl.set i (.k e sz (g+ 1) (b++m)),[i]⟩
     | _,_=>.no
 | none=>.no
section
variable {E:Env} {W w w':World} {M0:List Nat} {X:Nat->Prop} {n:cE} {f:cu E.T.El} {bl:List (aC E.T.El)} {ρ:List Value} {a:Act} {cur:List (Nat × Bool)}
def OP (w:World) (bl:List (aC E.T.El)) (ρ:List Value) (e sz n:Nat) (v:Value) (xs:List Value):Option (Nat × Nat)->Prop
 | none=>∃ A,v= .slice A 0 0 /\n= 0 /\xs= []
 | some (i,g)=>∃ A c h B,v= .slice A n c/\rowIs w e sz v n xs/\bl[i]? =some B/\ρ[i]? =some h/\bA B h=bn.ag v/\kZ h/\b5 (some B)=g
theorem af6 (hm:Mem E.T W M0 X bl ρ w) {e:Nat} {u:aF E.T.El} {v:Value} {p:Option (Nat × Nat)} {l:List (E.T.El e)} (h:Mz E bl e u=some (p,l)) (ah:ar E.T (bh X bl ρ w) w ρ bl u v) :
 ∃ xs,OP (E:=E) w bl ρ e (E.T.ty e).size l.length v xs p/\dS (E.T.ty e) (bh X bl ρ w) w xs l:=by
 unfold Mz at h
 split at h
 · simp only [Option.some.injEq,Prod.mk.injEq] at h
   obtain ⟨rfl,rfl⟩:=h
   simp only [ar] at ah
   exact ⟨[],⟨none,ah,rfl,rfl⟩,rfl⟩
 · simp only [Option.some.injEq,Prod.mk.injEq] at h
   obtain ⟨rfl,rfl⟩:=h
   simp only [ar] at ah
   obtain ⟨A,dl⟩:=ah.2
   exact ⟨[],⟨A,dl,rfl,rfl⟩,rfl⟩
 · rename_i i g
   split at h
   · rename_i t' bG k l' hi
     rw [cW] at hi
     split at h
     · rename_i cB ag hc
       simp only [Option.some.injEq,Prod.mk.injEq] at h
       obtain ⟨rfl,rfl⟩:=h
       obtain ⟨rfl,rfl⟩:=BZ hc
       have ag:=Nat.eq_of_beq_eq_true ag
       simp only [ar] at ah
       obtain ⟨_,aM,bk,bF,b1⟩:=ah
       rw [hi] at b1
       have aT:=b1 ag
       obtain ⟨A,c,xs,ak,al,aV⟩:=hm.ok i _ _ hi bk
       rw [aT]
       exact ⟨xs,⟨A,c,aM,_,ak,al,hi,bk,rfl,by rw [ak];trivial,ag.symm⟩,aV⟩
     · cases h
   · cases h
 · rename_i i g cR
   split at h
   · rename_i t' bG k l' hi
     rw [cW] at hi
     split at h
     · rename_i cB ag hc
       simp only [Option.some.injEq,Prod.mk.injEq] at h
       obtain ⟨rfl,rfl⟩:=h
       obtain ⟨rfl,rfl⟩:=BZ hc
       have ag:=Nat.eq_of_beq_eq_true ag
       simp only [ar] at ah
       obtain ⟨_,aM,bk,bF,b1⟩:=ah
       rw [hi] at b1
       obtain ⟨cj,eU,bH,B,dg,pV,l1,cB,ju,Kb,_⟩:=b1 ag
       obtain ⟨A,c,xs,ak,al,aV⟩:=hm.ok i _ _ hi bk
       rw [ak] at dg al
       simp only [Value.slice.injEq] at dg
       obtain ⟨rfl,rfl,rfl⟩:=dg
       have bO:=Kb rfl
       subst bO
       have hlen:(l'.take cR.toNat).length=cR.toNat:=by rw [List.length_take];omega
       have bS:=al.short (k:=cR.toNat) (by omega)
       have dw:v= .slice B cR.toNat c:=by rw [ju];simp
       rw [dw]
       refine ⟨xs.take (cR.toNat*(E.T.ty t').size),⟨B,c,aM,_,by rw [hlen],by rw [hlen];exact bS,hi,bk,by rw [ak];cases B <;> cases c <;> rfl,by rw [ak];trivial,ag.symm⟩,?_⟩
       have:=rZ 0 cR.toNat aV
       simpa using this
     · cases h
   · cases h
 · cases h
theorem VL (hm:Mem E.T W M0 X bl ρ w) {e sz:Nat} {u:aF E.T.El} {v:Value} {p:Option (Nat × Nat)} {cs:List (aF E.T.El)} (d_:0 <sz) (h:xy E bl e sz u=some (p,cs)) (ah:ar E.T (bh X bl ρ w) w ρ bl u v) :
 ∃ xs,OP (E:=E) w bl ρ e sz (cs.length / sz) v xs p/\a4 E.T (bh X bl ρ w) w ρ bl cs xs:=by
 unfold xy at h
 split at h
 · simp only [Option.some.injEq,Prod.mk.injEq] at h
   obtain ⟨rfl,rfl⟩:=h
   simp only [ar] at ah
   exact ⟨[],⟨none,ah,by simp,rfl⟩,by simp [a4]⟩
 · simp only [Option.some.injEq,Prod.mk.injEq] at h
   obtain ⟨rfl,rfl⟩:=h
   simp only [ar] at ah
   obtain ⟨A,dl⟩:=ah.2
   exact ⟨[],⟨A,dl,by simp,rfl⟩,by simp [a4]⟩
 · rename_i i g
   split at h
   · rename_i t' r8 bG jL hi
     rw [cW] at hi
     split at h
     · rename_i ag
       simp only [Bool.and_eq_true] at ag
       simp only [Option.some.injEq,Prod.mk.injEq] at h
       obtain ⟨rfl,rfl⟩:=h
       have bY:=Nat.eq_of_beq_eq_true ag.1.1
       have eA:=Nat.eq_of_beq_eq_true ag.1.2
       have hJ:=Nat.eq_of_beq_eq_true ag.2
       subst eA;subst hJ
       simp only [ar] at ah
       obtain ⟨_,aM,bk,bF,b1⟩:=ah
       rw [hi] at b1
       have aT:=b1 bY
       obtain ⟨A,m,c,xs,ak,al,aV⟩:=hm.ok i _ _ hi bk
       have hlen:=aV.len
       have aa:=al.len
       have tx:jL.length / r8=m:=by rw [<-hlen,aa];exact Nat.mul_div_cancel _ d_
       rw [aT,tx]
       exact ⟨xs,⟨A,c,aM,_,ak,al,hi,bk,rfl,by rw [ak];trivial,bY.symm⟩,aV⟩
     · cases h
   · cases h
 · cases h
theorem Yt (hm:Mem E.T W M0 X bl ρ w) {o:Oper} {t e sz b2:Nat} {x y:Operand} {p:Option (Nat × Nat)} {n m:Nat} {xs news:List Value} {c7:Option Addr} {c2:Nat} (B':Nat->aC E.T.El) (he:q2 E.P t=some (e,sz,b2)) (av:o.op= .call { callee:=.builtin .append,args:=#[x,y],argTypes:=#[t,t] })
 (aO:OP (E:=E) w bl ρ e sz n (a.eval x) xs p) (hy:a.eval y= .slice c7 m c2) (ao:BQ w sz m c7 news) (ag:(n+m)*b2<= 140737488355328)
 (Kp:∀ g,b5 (some (B' g))=g) (Kn:∀ g h,bA (B' g) h=bn.ag h)
 (bO:∀ (bl':List (aC E.T.El)) (ρ':List Value) (w':World) (g:Nat) (cj:Option Addr) (bH:Nat),To X bl bl' ρ ρ' w w'->rowIs w' e sz (.slice cj (n+m) bH) (n+m) (xs++news)->ih E.T (bh X bl' ρ' w') w' ρ' bl' (B' g) (.slice cj (n+m) bH)) :
 gG E o a W M0 X bl ρ w (match p with
  | none=>⟨some (.r bl.length 0),bl++[B' 0],[]⟩
  | some (i,g)=>⟨some (.r i (g+ 1)),bl.set i (B' (g+ 1)),[i]⟩):=by
 obtain ⟨hu,i0,z,hi,ai,I,aa,aw,bi,dA⟩:=vO he
 have Cm:n+m<=maxLen:=by
  have hd:=Nat.le_mul_of_pos_right (n+m) dA
  simp only [maxLen]
  omega
 have nu:∀ {A:Option Addr} {c:Nat} {e4:Value} {w':World},a.eval x= .slice A n c->(Builtin.append_ #[t,t] o.type #[.slice A n c,.slice c7 m c2]).run E.P w= .ok e4 w'->bb E.P o a w e4 w':=fun {A c e4 w'} ad fO=>by
  simp only [bb,execOp,av,resolve,invoke,builtin,Sem.run_bind,Sem.run_pure,Result.andThen_ok,List.map_toArray,List.map_cons,List.map_nil,ad,hy,fO]
 cases p with
 | none=>
   obtain ⟨A,ad,rfl,rfl⟩:=aO
   obtain ⟨cj,bH,w',bg,bf,cc,da⟩:=Ys (w:=w) (ty:=o.type) hu hi ai I aa aw bi (show rowIs w e sz (.slice A 0 0) 0 [] from .inr ⟨rfl,rfl,A,rfl⟩) ao Cm ag
   have q_:bn.ag (.slice A 0 0)= []:=by cases A <;> rfl
   rw [q_] at cc da
   have af:∀ k ∈ bA (B' 0) (.slice cj (0 +m) bH),w.heap.size<=k/\k <w'.heap.size:=fun k aj=>by
    rw [Kn] at aj
    rcases da k aj with e | e
    · simp at e
    · exact e
   have gv:=hm.xz (B:=B' 0) (h:=.slice cj (0 +m) bH) cc af
   refine ⟨w',ρ++[.slice cj (0 +m) bH],hm.push cc af (bO _ _ _ _ _ _ gv bf),gv,fun k aj _=>cc.block k aj (by simp),_,nu ad bg,?_⟩
   simp only [ar]
   refine ⟨trivial,.slice cj (0 +m) bH,by rw [<-hm.len];simp,Nat.zero_le _,fun _=>rfl⟩
 | some acn=>
   obtain ⟨i,g⟩:=acn
   obtain ⟨A,c,h,B,ad,aE,zA,jP,kh,at8,ax⟩:=aO
   rw [ad] at aE kh
   obtain ⟨cj,bH,w',bg,bf,cc,da⟩:=Ys (w:=w) (ty:=o.type) hu hi ai I aa aw bi aE ao Cm ag
   rw [<-kh] at cc da
   have af:∀ k ∈ bA (B' (g+ 1)) (.slice cj (n+m) bH),k ∈ bA B h\/(w.heap.size<=k/\k <w'.heap.size):=fun k aj=>da k (by rw [Kn] at aj;exact aj)
   have gv:=hm.Dx (B':=B' (g+ 1)) (h':=.slice cj (n+m) bH) zA jP cc af ⟨fun aJ=>absurd at8 aJ,by rw [Kp,ax];omega,fun e=>by rw [Kp,ax] at e;omega⟩
   refine ⟨w',ρ.set i (.slice cj (n+m) bH),hm.uH zA jP cc af gv (bO _ _ _ _ _ _ gv bf),gv,fun k aj cN=>cc.block k aj (cN i (by simp) B h zA jP),_,nu ad bg,?_⟩
   simp only [ar]
   have l1:=(List.getElem?_eq_some_iff.1 zA).1
   have cB:=(List.getElem?_eq_some_iff.1 jP).1
   refine ⟨trivial,_,List.getElem?_set_self cB,?_,fun _=>rfl⟩
   rw [List.getElem?_set_self l1,Kp]
   exact Nat.le_refl _
theorem aqN (a3:c8 E) (hm:Mem E.T W M0 X bl ρ w) {o:Oper} {t:Nat} {x y:Operand} {u v:aF E.T.El} {r:ek E.T.El} (h:(PB E bl t u v).out r) (av:o.op= .call { callee:=.builtin .append,args:=#[x,y],argTypes:=#[t,t] })
 (ad:ar E.T (bh X bl ρ w) w ρ bl u (a.eval x)) (hy:ar E.T (bh X bl ρ w) w ρ bl v (a.eval y)):gG E o a W M0 X bl ρ w r:=by
 unfold PB at h
 split at h
 · rename_i e sz b2 he
   obtain ⟨_,_,_,_,_,_,_,_,gS,_⟩:=vO he
   have aga:∀ {p:Option (Nat × Nat)} {b m l:List (E.T.El e)},Nat.beq sz (E.T.ty e).size=true->Mz E bl e u=some (p,b)->Hu E bl e v=some m->bK b2 b m=some l->gG E o a W M0 X bl ρ w (match p with
    | none=>⟨some (.r bl.length 0),bl++[.r e 0 0 l],[]⟩
    | some (i,g)=>⟨some (.r i (g+ 1)),bl.set i (.r e (g+ 1) 0 l),[i]⟩):=fun {p b m l} I aa aw bi=>by
    have I:=Nat.eq_of_beq_eq_true I
    subst I
    obtain ⟨ag,rfl⟩:=I7 bi
    obtain ⟨xs,bk,bF⟩:=af6 hm aa ad
    obtain ⟨c7,c2,news,cD,dM,gM⟩:=afT a3 hm aw hy
    have:=Yt (B':=fun g=>aC.r e g 0 (b++m)) hm he av bk cD dM ag (fun _=>rfl) (fun _ _=>rfl) (fun bl' ρ' w' g cj bH gv aE=>⟨cj,bH,xs++news,by rw [List.length_append],by rw [List.length_append];exact aE,G1 _ (mR _ gv.F gM) (mR _ gv.F bF)⟩)
    cases p <;> exact this
   have Y1:∀ {p q:Option (Nat × Nat)} {b m:List (aF E.T.El)} {l:List Unit},xy E bl e sz u=some (p,b)->xy E bl e sz v=some (q,m)->uu m=true->bK b2 (List.replicate (b.length / sz) ()) (List.replicate (m.length / sz) ())=some l->gG E o a W M0 X bl ρ w (match p with
    | none=>⟨some (.r bl.length 0),bl++[.k e sz 0 (b++m)],[]⟩
    | some (i,g)=>⟨some (.r i (g+ 1)),bl.set i (.k e sz (g+ 1) (b++m)),[i]⟩):=fun {p q b m l} I aa R0 aw=>by
    obtain ⟨ag,_⟩:=I7 aw
    simp only [List.length_replicate] at ag
    obtain ⟨xs,bk,bF⟩:=VL hm gS I ad
    obtain ⟨ys,cD,dM⟩:=VL hm gS aa hy
    have R5:∃ c7 c2,a.eval y= .slice c7 (m.length / sz) c2/\BQ w sz (m.length / sz) c7 ys:=by
     cases q with
     | none=>
       obtain ⟨A,ak,al,rfl⟩:=cD
       rw [al]
       exact ⟨A,0,ak,.inl ⟨rfl,rfl⟩⟩
     | some acn=>
       obtain ⟨A,c,h,B,ak,al,_⟩:=cD
       rw [ak] at al
       exact ⟨A,c,ak,Vq al (fun u hu=>List.all_eq_true.1 (GC R0 dM) u hu)⟩
    obtain ⟨c7,c2,s1,s2⟩:=R5
    have:=Yt (B':=fun g=>aC.k e sz g (b++m)) hm he av bk s1 s2 ag (fun _=>rfl) (fun _ _=>rfl) (fun bl' ρ' w' g cj bH gv aE=>⟨cj,_,bH,xs++ys,rfl,aE,a4.bK (gv.vs bF) (gv.vs dM)⟩)
    cases p <;> exact this
   split at h
   · rename_i b m I aa aw
     obtain ⟨l,bi,dA⟩:=h
     have dA:(⟨some (.r bl.length 0),bl++[.r e 0 0 l],[]⟩:ek E.T.El)=r:=dA
     subst dA
     have q_:b= []:=by
      obtain ⟨xs,⟨A,_,al,_⟩,_⟩:=af6 hm aa ad
      exact List.eq_nil_of_length_eq_zero al
     subst q_
     exact aga (p:=none) I aa aw bi
   · rename_i i g b m I aa aw
     obtain ⟨l,bi,dA⟩:=h
     have dA:(⟨some (.r i (g+ 1)),bl.set i (.r e (g+ 1) 0 l),[i]⟩:ek E.T.El)=r:=dA
     subst dA
     exact aga I aa aw bi
   · have afS:∀ {m:List (aF E.T.El)},(match xy E bl e sz v with
      | some (_,m)=>match uu m with
        | true=>some m
        | false=>none
      | none=>none)=some m-> ∃ q,xy E bl e sz v=some (q,m)/\uu m=true:=fun {m} h=>by
      split at h
      · rename_i q eU aT
        split at h
        · rename_i kV
          simp only [Option.some.injEq] at h
          subst h
          exact ⟨q,aT,kV⟩
        · cases h
      · cases h
     split at h
     · rename_i b m I aa
       obtain ⟨q,aa,aw⟩:=afS aa
       obtain ⟨l,bi,dA⟩:=h
       have dA:(⟨some (.r bl.length 0),bl++[.k e sz 0 m],[]⟩:ek E.T.El)=r:=dA
       subst dA
       have q_:b= []:=by
        obtain ⟨xs,⟨A,_,al,aV⟩,bS⟩:=VL hm gS I ad
        subst aV
        exact List.eq_nil_of_length_eq_zero bS.len.symm
       subst q_
       exact Y1 (p:=none) (b:=[]) I aa aw (by simpa using bi)
     · rename_i i g b m I aa
       obtain ⟨q,aa,aw⟩:=afS aa
       obtain ⟨l,bi,dA⟩:=h
       have dA:(⟨some (.r i (g+ 1)),bl.set i (.k e sz (g+ 1) (b++m)),[i]⟩:ek E.T.El)=r:=dA
       subst dA
       exact Y1 I aa aw bi
     · exact h.elim
 · exact h.elim
end
end bn
namespace bn
open Go Go.RowKit au J
def kF {α:Type} (z:List α):Nat->List α
 | 0 =>[]
 | n+ 1 =>z++kF z n
theorem NV {α:Type} (z:List α):∀ n,(kF z n).length=n*z.length
 | 0 =>by simp [kF]
 | n+ 1 =>by simp only [kF,List.length_append,NV z n,Nat.add_mul];omega
theorem ajU {α:Type} {z:List α}:∀ {n i:Nat},i <n*z.length->(kF z n)[i]? =z[i % z.length]?
 | 0,i,h=>by simp at h
 | n+ 1,i,h=>by
   simp only [kF]
   rcases Nat.lt_or_ge i z.length with c | c
   · rw [List.getElem?_append_left c,Nat.mod_eq_of_lt c]
   · rw [List.getElem?_append_right c,ajU (by rw [Nat.add_mul] at h;omega),Nat.mod_eq_sub_mod c]
theorem ajT (yo:Array Value) (n:Nat) (h:0 <yo.size):((Array.range (n*yo.size)).map (yo[· % yo.size]!))=⟨kF yo.toList n⟩:=by
 rw [<-Array.toList_inj]
 apply List.ext_getElem?
 intro i
 rcases Nat.lt_or_ge i (n*yo.size) with c | c
 · simp only
   rw [ajU (by simpa using c)]
   have hm:i % yo.size <yo.size:=Nat.mod_lt _ h
   simp [c,hm]
 · rw [List.getElem?_eq_none (by simpa using c),List.getElem?_eq_none (by rw [NV];simpa using c)]
theorem ajV {El:Nat->Type} (z:List Value):∀ n,(kF z n).map (aF.p (El:=El))=kF (z.map .p) n
 | 0 =>rfl
 | n+ 1 =>by simp [kF,ajV z n]
def aaA (E:Env) (bl:List (aC E.T.El)) (t n:Nat) (ps:List (Nat × aF E.T.El)):Option (ek E.T.El):=match q2 E.P t,n,ps with
 | some (e,sz,_),0,[]=>match Nat.beq sz (E.T.ty e).size with
   | true=>some ⟨some (.r bl.length 0),bl++[.r e 0 0 []],[]⟩
   | false=>some ⟨some (.r bl.length 0),bl++[.k e sz 0 []],[]⟩
 | _,_,_=>none
def PL (E:Env) (bl:List (aC E.T.El)) (t n:Nat) (ps:List (Nat × aF E.T.El)):D (ek E.T.El):=match q2 E.P t with
 | some (e,sz,_)=>match Bt E.P e,Nat.ble n 100000 && Nat.blt 0 n && Nat.ble (n*sz) 16777216 with
   | some z,true=>match sW (fun i=>some (i*sz,sz)) (kF (z.map .p) n) ps with
     | some cs=>match mx bl cs with
       | (bl',jL)=>match Nat.beq sz (E.T.ty e).size,CL (E.T.e e) (B1 sz n jL) with
         | true,some l=>.ok ⟨some (.r bl'.length 0),bl'++[.r e 0 0 l],[]⟩
         | _,_=>.ok ⟨some (.r bl.length 0),bl++[.k e sz 0 cs],[]⟩
     | none=>.no
   | _,_=>.no
 | none=>.no
def PK (E:Env) (bl:List (aC E.T.El)) (t n:Nat) (ps:List (Nat × aF E.T.El)):D (ek E.T.El):=match aaA E bl t n ps with
 | some r=>.ok r
 | none=>PL E bl t n ps
def Vt:Operand->Operand->Bool
 | .tmp a,.tmp b=>Nat.beq a b
 | .const (.int .i64 m),.const (.int .i64 n)=>decide (m=n)
 | _,_=>false
theorem aBy {a:Act} {x y:Operand} (h:Vt x y=true):a.eval x=a.eval y:=by
 unfold Vt at h
 split at h
 · rw [Nat.eq_of_beq_eq_true h]
 · rw [of_decide_eq_true h]
 · cases h
def PQ (E:Env) (bl:List (aC E.T.El)) (t:Nat) (x y:Operand) (u:aF E.T.El):D (ek E.T.El):=match q2 E.P t,u with
 | some (e,sz,b2),.p (.int .i64 k)=>match Nat.beq sz (E.T.ty e).size,u4 E e e,Vt x y with
   | true,some hU,true=>.op (Gn hU b2 k) fun l=>.ok ⟨some (.r bl.length 0),bl++[.r e 0 0 l],[]⟩
   | _,_,_=>.no
 | _,_=>.no
section
variable {E:Env} {W w w':World} {M0:List Nat} {X:Nat->Prop} {n:cE} {f:cu E.T.El} {bl:List (aC E.T.El)} {ρ:List Value} {a:Act} {cur:List (Nat × Bool)}
theorem Gv (hm:Mem E.T W M0 X bl ρ w) {o:Oper} {e sz n:Nat} {vs:List Value} {B:aC E.T.El} (Kp:b5 (some B)= 0) (Kn:∀ h,bA B h=bn.ag h) (aq:vs.length=n*sz) (aJ:n<=maxLen)
 (bO:∀ (bl':List (aC E.T.El)) (ρ':List Value) (w':World),To X bl bl' ρ ρ' w w'->rowIs w' e sz (.slice (some ⟨w.heap.size,0,none⟩) n n) n vs->ih E.T (bh X bl' ρ' w') w' ρ' bl' B (.slice (some ⟨w.heap.size,0,none⟩) n n))
 (hy:bb E.P o a w (.slice (some ⟨w.heap.size,0,none⟩) n n) (w.alloc (.cells ⟨vs⟩ e))):gG E o a W M0 X bl ρ w ⟨some (.r bl.length 0),bl++[B],[]⟩:=by
 have ah:bp [] w (w.alloc (.cells ⟨vs⟩ e)):=bp.alloc _ _ _
 have aE:rowIs (w.alloc (.cells ⟨vs⟩ e)) e sz (.slice (some ⟨w.heap.size,0,none⟩) n n) n vs:=
  .inl ⟨aq,.inr ⟨w.heap.size,n,⟨vs⟩,rfl,Nat.zero_le _,heap_alloc_new w _,Nat.le_refl _,aJ,by simpa using aq,by rw [<-aq,List.take_length]⟩⟩
 have af:∀ k ∈ bA B (.slice (some ⟨w.heap.size,0,none⟩) n n),w.heap.size<=k/\k <(w.alloc (.cells ⟨vs⟩ e)).heap.size:=fun k aj=>by
  rw [Kn] at aj
  have:k=w.heap.size:=by
   cases n with
   | zero=>simp [bn.ag] at aj
   | succ q=>simpa [bn.ag] using aj
  subst this
  simp
 have aO:=hm.xz (B:=B) (h:=.slice (some ⟨w.heap.size,0,none⟩) n n) ah af
 refine ⟨_,ρ++[.slice (some ⟨w.heap.size,0,none⟩) n n],hm.push ah af (bO _ _ _ aO aE),aO,fun k aj _=>ah.block k aj (by simp),_,hy,?_⟩
 simp only [ar]
 exact ⟨trivial,.slice (some ⟨w.heap.size,0,none⟩) n n,by rw [<-hm.len];simp,Nat.zero_le _,fun _=>rfl⟩
theorem aqX (a3:c8 E) (hm:Mem E.T W M0 X bl ρ w) {o:Oper} {t n:Nat} {xs:List (Nat × Operand)} {ps:List (Nat × aF E.T.El)} {r:ek E.T.El} (h:(PL E bl t n ps).out r) (av:o.op= .buildSlice t n xs.toArray)
 (aN:pn E.T (bh X bl ρ w) w ρ bl ps (xs.map fun p=>(p.1,a.eval p.2))):gG E o a W M0 X bl ρ w r:=by
 unfold PL at h
 split at h
 · rename_i e sz b2 he
   obtain ⟨hu,i0,eK,hi,mF,I,aa,aw,gS,dA⟩:=vO he
   split at h
   · rename_i z ai ag
     simp only [Bool.and_eq_true] at ag
     have Fk:=Nat.le_of_ble_eq_true ag.1.1
     have Co:=Nat.le_of_ble_eq_true ag.1.2
     have abC:=Nat.le_of_ble_eq_true ag.2
     obtain ⟨XO,F1,jS⟩:=IA ai
     have F2:XO=eK:=by
      have ak:=F1 w
      simp only [zeroValue,typeInfo,Sem.run_bind] at ak
      simp [go_sem,hi,mF] at ak
      exact ak.symm
     subst F2
     have aus:z.length=sz:=by rw [<-aw,jS];simp
     split at h
     · rename_i cs af
       obtain ⟨os,f1,f2⟩:=P1 (ql (kF z n)) aN (by rw [ajV];exact af)
       have RZ:os.length=n*sz:=by
        have ak:=f2.len
        have key:∀ {ps:List (Nat × aF E.T.El)} {c d:List (aF E.T.El)},sW (fun i=>some (i*sz,sz)) c ps=some d->d.length=c.length:=by
         intro ps
         induction ps with
         | nil=>intro c d bC;simp only [sW,Option.some.injEq] at bC;rw [bC]
         | cons p r bq=>
           intro c d bC
           obtain ⟨i,y⟩:=p
           simp only [sW] at bC
           split at bC
           · rename_i q'
             simp only [Bool.and_eq_true] at q'
             rw [bq bC,SU (Nat.le_of_ble_eq_true q'.2)]
           · cases bC
        rw [ak,key af,NV,List.length_map,aus]
       have ab6:=ajT XO.cells n (by rw [aw];exact gS)
       rw [aw,jS] at ab6
       have nu:bb E.P o a w (.slice (some ⟨w.heap.size,0,none⟩) n n) (w.alloc (.cells ⟨os⟩ e)):=by
        have bk: ¬ (n*sz > 2 ^ 24):=by omega
        have bF:n*sz≠ 0 :=by
         intro bC
         rcases Nat.mul_eq_zero.1 bC with q | q <;> omega
        simp only [bb,execOp,av,Instr.buildSlice,Sem.run_bind,Sem.run_pure,run_sizeOf hi,I,F1,Result.andThen_ok,run_underlying hu,List.map_toArray,if_neg bk,if_neg bF]
        have FX:XO.cells.size=sz:=aw
        rw [jS] at FX
        simp only [jS]
        rw [FX,ab6,f1]
        rfl
       have FK:n<=maxLen:=by simp only [maxLen];omega
       split at h
       rename_i bl' jL ov
       obtain ⟨ey,t1,v1⟩:=J1 hm ov f2
       split at h
       · rename_i l aT aq
         have h:(⟨some (.r bl'.length 0),bl'++[.r e 0 0 l],[]⟩:ek E.T.El)=r:=h
         subst h
         have aT:=Nat.eq_of_beq_eq_true aT
         obtain ⟨cD,dM⟩:=Sl a3 n v1 RZ aq
         refine gG.first t1 (fun i hi=>by simp at hi) (Gv (e:=e) (sz:=sz) (n:=n) (vs:=os) ey rfl (fun _=>rfl) RZ FK (fun vE kG db gv aE=>?_) nu)
         subst aT
         exact ⟨_,_,os,by rw [dM],by rw [dM];exact aE,mR _ gv.F cD⟩
       · have h:(⟨some (.r bl.length 0),bl++[.k e sz 0 cs],[]⟩:ek E.T.El)=r:=h
         subst h
         exact Gv (e:=e) (sz:=sz) (n:=n) (vs:=os) hm rfl (fun _=>rfl) RZ FK (fun vE kG db gv aE=>⟨_,_,_,os,rfl,aE,gv.vs f2⟩) nu
     · exact h.elim
   · exact h.elim
 · exact h.elim
theorem aqY (a3:c8 E) (hm:Mem E.T W M0 X bl ρ w) {o:Oper} {t n:Nat} {xs:List (Nat × Operand)} {ps:List (Nat × aF E.T.El)} {r:ek E.T.El} (h:(PK E bl t n ps).out r) (av:o.op= .buildSlice t n xs.toArray)
 (aN:pn E.T (bh X bl ρ w) w ρ bl ps (xs.map fun p=>(p.1,a.eval p.2))):gG E o a W M0 X bl ρ w r:=by
 unfold PK at h
 split at h
 · rename_i eV aQ
   have h:eV=r:=h
   subst h
   unfold aaA at aQ
   split at aQ
   · rename_i e sz b2 he
     obtain ⟨hu,i0,eK,hi,mF,I,aa,aw,gS,dA⟩:=vO he
     have ad:xs= []:=by
      cases xs with
      | nil=>rfl
      | cons p q=>simp [pn] at aN
     subst ad
     have hy:bb E.P o a w _ _:=aFO (sz:=i0.size) hu (fun w=>run_sizeOf hi w) av
     split at aQ
     · rename_i ag
       simp only [Option.some.injEq] at aQ
       subst aQ
       exact Gv (e:=e) (sz:=sz) (n:=0) (vs:=[]) hm rfl (fun _=>rfl) (by simp) (Nat.zero_le _) (fun vE kG db gv aE=>⟨_,_,[],rfl,by rw [<-Nat.eq_of_beq_eq_true ag];exact aE,rfl⟩) hy
     · simp only [Option.some.injEq] at aQ
       subst aQ
       exact Gv (e:=e) (sz:=sz) (n:=0) (vs:=[]) hm rfl (fun _=>rfl) (by simp) (Nat.zero_le _) (fun vE kG db gv aE=>⟨_,_,_,[],rfl,aE,rfl⟩) hy
   · cases aQ
 · exact aqX a3 hm h av aN
theorem afe {α:Type} {T:cY α} {F:Nat->Prop} {w:World} {z:List Value} {hU:α} (h:T.rd F w z hU):∀ n,dS T F w (kF z n) (List.replicate n hU)
 | 0 =>rfl
 | n+ 1 =>⟨z,kF z n,rfl,h,afe h n⟩
theorem aq3 (a3:c8 E) (hm:Mem E.T W M0 X bl ρ w) {o:Oper} {t:Nat} {x y:Operand} {u:aF E.T.El} {r:ek E.T.El} (h:(PQ E bl t x y u).out r) (av:o.op= .makeSlice t x y) (ad:ar E.T (bh X bl ρ w) w ρ bl u (a.eval x)):gG E o a W M0 X bl ρ w r:=by
 unfold PQ at h
 split at h
 · rename_i e sz b2 k he
   obtain ⟨hu,i0,eK,hi,mF,I,aa,aw,gS,dA⟩:=vO he
   split at h
   · rename_i hU aT ai ao
     obtain ⟨l,hd,h2⟩:=h
     have h2:(⟨some (.r bl.length 0),bl++[.r e 0 0 l],[]⟩:ek E.T.El)=r:=h2
     subst h2
     have aT:=Nat.eq_of_beq_eq_true aT
     obtain ⟨hP,bg,rfl⟩:=aw8 hd
     obtain ⟨m,rfl⟩:=Int.eq_ofNat_of_zero_le hP
     simp only [Int.toNat_natCast] at *
     have hle:m<=b2*m:=Nat.le_mul_of_pos_left m dA
     have FK:m<=maxLen:=by simp only [maxLen];omega
     simp only [ar] at ad
     have hy:a.eval y= .int .i64 (m:Int):=by rw [<-aBy ao,ad]
     have fY:(E.T.ty e).rd (bh X bl ρ w) w eK.cells.toList hU:=by
      unfold u4 at ai
      split at ai
      · rename_i IB jS
        split at ai
        · have ak:IB=eK:=by
           simp only [Ed,hi] at jS
           rw [mF] at jS
           exact (Option.some.inj jS).symm
          subst ak
          exact a3.tb.gT _ _ _ ai _ _ ρ bl _ (ql _)
        · cases ai
      · cases ai
     have q':(i0.bytes:Int)*(m:Int)<= 281474976710656 :=by
      rw [aa]
      have ni:((b2*m:Nat):Int)<= 281474976710656 :=by omega
      rwa [Int.natCast_mul] at ni
     have fO:=run_make (P:=E.P) w t e i0 eK hu hi mF .i64 .i64 (m:Int) (m:Int) (by omega) (Int.le_refl _) q' (by simp only [maxLen] at FK;omega)
     simp only [Int.toNat_natCast] at fO
     have asO:madeCells eK.cells (m*sz)=⟨kF eK.cells.toList m⟩:=by
      have:=ajT eK.cells m (by rw [aw];exact gS)
      rw [aw] at this
      simp only [madeCells,aw]
      exact this
     rw [I,asO] at fO
     have nu:bb E.P o a w (.slice (some ⟨w.heap.size,0,none⟩) m m) (w.alloc (.cells ⟨kF eK.cells.toList m⟩ e)):=by
      simp only [bb,execOp,av,ad,hy,Sem.run_bind,fO,Result.andThen_ok,Sem.run_pure]
     refine Gv (e:=e) (sz:=sz) (n:=m) (vs:=kF eK.cells.toList m) hm rfl (fun _=>rfl) (by rw [NV];simp [aw]) FK (fun vE kG db gv aE=>?_) nu
     subst aT
     exact ⟨_,_,_,by rw [List.length_replicate],by rw [List.length_replicate];exact aE,afe ((E.T.ty e).law gv.F fY) m⟩
   · exact h.elim
 · exact h.elim
end
end bn
namespace bn
open Go Go.RowKit au J
def agb (P:Program) (t:Nat):Bool:=match P.underlying t with
 | some (.int .u8)=>true
 | _=>false
def PV (E:Env) (bl:List (aC E.T.El)) (s d:Nat) (u:aF E.T.El):D (ek E.T.El):=match E.P.underlying s,E.P.underlying d,u with
 | some .string,some (.slice e),.p (.string ⟨⟨l⟩⟩)=>match Nat.beq e E.kL,agb E.P E.kL with
   | true,true=>.op (bytesOf l) fun r=>.ok ⟨some (.s E.kL (E.I_ r)),bl,[]⟩
   | _,_=>.no
 | _,_,_=>.no
section
variable {E:Env} {W w w':World} {M0:List Nat} {X:Nat->Prop} {bl:List (aC E.T.El)} {ρ:List Value} {a:Act}
theorem aq8 (a3:c8 E) (hm:Mem E.T W M0 X bl ρ w) {o:Oper} {s d:Nat} {x:Operand} {u:aF E.T.El} {r:ek E.T.El} (ai:(PV E bl s d u).out r) (av:o.op= .convert s d x) (ad:ar E.T (bh X bl ρ w) w ρ bl u (a.eval x)):gG E o a W M0 X bl ρ w r:=by
 unfold PV at ai
 split at ai
 · rename_i e l aO tz
   split at ai
   · rename_i ag hu
     have ag:=Nat.eq_of_beq_eq_true ag
     subst ag
     have he:E.P.underlying E.kL=some (.int .u8):=by
      unfold agb at hu
      split at hu
      · assumption
      · cases hu
     obtain ⟨q,I,aa⟩:=ai
     have aa:(⟨some (.s E.kL (E.I_ q)),bl,[]⟩:ek E.T.El)=r:=aa
     subst aa
     simp only [ar] at ad
     unfold bytesOf at I
     split at I
     · rename_i hle
       simp only [Option.some.injEq] at I
       subst I
       have fO:=run_bytes_of_string (P:=E.P) w s d E.kL ⟨⟨l⟩⟩ aO tz he
       have d_:(⟨⟨l⟩⟩:ByteArray).size=l.length:=rfl
       have hc:=grownCap_ge w l.length 0 E.kL
       have rc:=grownCap_le_maxLen w l.length 0 E.kL (by simp only [maxLen];omega)
       obtain ⟨B,bO⟩:∃ B,B=bytesRow ⟨⟨l⟩⟩ (grownCap w l.length 0 E.kL):=⟨_,rfl⟩
       obtain ⟨eS,kU⟩:∃ eS,eS=grownCap w l.length 0 E.kL:=⟨_,rfl⟩
       rw [d_,<-bO,<-kU] at fO
       rw [<-kU] at hc rc
       have hy:bb E.P o a w (.slice (some ⟨w.heap.size,0,none⟩) l.length eS) (w.drew.alloc (.cells B E.kL (B.size,B.size+ 1))):=by
        simp only [bb,execOp,av,ad,Sem.run_bind,fO,Result.andThen_ok]
        rfl
       have im:bp [] w (w.drew.alloc (.cells B E.kL (B.size,B.size+ 1))):=(bp.drew [] w).trans (bp.alloc [] _ _) (by simp)
       refine ⟨_,ρ,hm.eT im,Mem.qq im,fun k aj _=>im.block k aj (by simp),_,hy,?_⟩
       simp only [ar]
       refine ⟨_,eS,by rw [a3.YA],by rw [a3.YA];exact hc,rc,(fun h=>by cases h),fun _=>⟨rfl,⟨?_,?_,by show w.heap.size <_;simp⟩,_,a3.an7 _ _ _ _ (afc l),fun j u aI=>?_⟩⟩
       · intro aj
         have I:w.heap.size <W.heap.size:=(hm.hf _ aj).1
         have aa:=hm.bV.size
         omega
       · intro aj
         have I:w.heap.size <w.heap.size:=(hm.lt _ aj).1
         omega
       · rw [List.getElem?_map,Option.map_eq_some_iff] at aI
         obtain ⟨b,ag,rfl⟩:=aI
         obtain ⟨tr,fL⟩:=List.getElem?_eq_some_iff.1 ag
         have:=bytesRow_at ⟨⟨l⟩⟩ (grownCap w l.length 0 E.kL) j (by simpa using tr)
         rw [<-bO] at this
         show World.cell? _ ⟨w.heap.size,0 +j,none⟩=_
         simp only [World.cell?,World.alloc]
         rw [show (w.drew.heap.push _)[w.heap.size]? =some _ from Array.getElem?_push_size (xs:=w.heap)]
         simp only [Nat.zero_add,this]
         simp [fL]
     · cases I
   · exact ai.elim
 · exact ai.elim
end
end bn
namespace bn
open Go Go.RowKit au J
def PC (E:Env) (bl:List (aC E.T.El)) (t tn:Nat) (u v:aF E.T.El):D (ek E.T.El):=match q2 E.P t,jT (E.P.underlying tn),u,v with
 | some (e,sz,b2),some (.i .i64),.p (.slice none 0 0),.p (.int .i64 k)=>match Nat.beq sz 1 && Nat.beq (E.T.ty e).size 1,u4 E e e with
   | true,some hU=>.op (EH hU b2 k) fun l=>.ok ⟨some (.r bl.length 0),bl++[.r e 0 0 l],[]⟩
   | _,_=>.no
 | _,_,_,_=>.no
section
variable {E:Env} {W w w':World} {M0:List Nat} {X:Nat->Prop} {n:cE} {f:cu E.T.El} {bl:List (aC E.T.El)} {ρ:List Value} {a:Act} {cur:List (Nat × Bool)}
theorem aqM (a3:c8 E) (hm:Mem E.T W M0 X bl ρ w) {o:Oper} {t tn:Nat} {x y:Operand} {u v:aF E.T.El} {r:ek E.T.El} (h:(PC E bl t tn u v).out r) (av:o.op= .call { callee:=.builtin .append,args:=#[x,y],argTypes:=#[t,tn] })
 (ad:ar E.T (bh X bl ρ w) w ρ bl u (a.eval x)) (ah:ar E.T (bh X bl ρ w) w ρ bl v (a.eval y)):gG E o a W M0 X bl ρ w r:=by
 unfold PC at h
 split at h
 · rename_i e sz b2 k he aj
   obtain ⟨hu,i0,eK,hi,mF,I,aa,aw,gS,dA⟩:=vO he
   have asj:=tI aj
   split at h
   · rename_i hU ag ai
     simp only [Bool.and_eq_true] at ag
     have ao:=Nat.eq_of_beq_eq_true ag.1
     have iW:=Nat.eq_of_beq_eq_true ag.2
     subst ao
     obtain ⟨l,hd,h2⟩:=h
     have h2:(⟨some (.r bl.length 0),bl++[.r e 0 0 l],[]⟩:ek E.T.El)=r:=h2
     subst h2
     obtain ⟨hP,bg,rfl⟩:=an3 hd
     obtain ⟨m,rfl⟩:=Int.eq_ofNat_of_zero_le (Int.le_of_lt hP)
     simp only [Int.toNat_natCast] at *
     have hle:m<=b2*m:=Nat.le_mul_of_pos_left m dA
     simp only [ar] at ad ah
     have fY:(E.T.ty e).rd (bh X bl ρ w) w eK.cells.toList hU:=by
      unfold u4 at ai
      split at ai
      · rename_i IB jS
        split at ai
        · have ak:IB=eK:=by
           simp only [Ed,hi] at jS
           rw [mF] at jS
           exact (Option.some.inj jS).symm
          subst ak
          exact a3.tb.gT _ _ _ ai _ _ ρ bl _ (ql _)
        · cases ai
      · cases ai
     obtain ⟨eS,kU⟩:∃ eS,eK.cells= #[eS]:=by
      revert aw
      generalize eK.cells=cs
      obtain ⟨l⟩:=cs
      intro aw
      cases l with
      | nil=>simp at aw
      | cons c r=>cases r with
        | nil=>exact ⟨c,rfl⟩
        | cons _ _=>simp at aw
     have fO:=Lib.run_append_nil_zeros (P:=E.P) w t tn o.type e i0 eK .i64 .i64 hu asj hi mF m (by omega) (by omega) (by omega) (by rw [aa,Nat.mul_comm];omega)
     let cap:=grownCap w m 0 e
     have Cp:m<=cap:=grownCap_ge w m 0 e
     have Fo:cap<=maxLen:=grownCap_le_maxLen w m 0 e (by simp only [maxLen];omega)
     have Sf:∀ q,(Builtin.zeroCells eK.cells q).toList=List.replicate q eS:=by
      intro q
      rw [kU]
      apply List.ext_getElem
      · simp [Builtin.zeroCells]
      · intro j I aa
        simp [Builtin.zeroCells,Nat.mod_one]
     let cur:=Builtin.zeroCells eK.cells m++Builtin.zeroCells eK.cells (cap - m)
     have hcs:cur.size=cap:=by simp only [cur,Array.size_append,size_zeroCells,kU];simp;omega
     have nu:bb E.P o a w (.slice (some ⟨w.heap.size,0,none⟩) m cap) (w.drew.alloc (.cells cur e)):=by
      simp only [bb,execOp,av,resolve,invoke,builtin,Sem.run_bind,Sem.run_pure,Result.andThen_ok,List.map_toArray,List.map_cons,List.map_nil,ad,ah,fO,cap,cur]
     have im:bp [] w (w.drew.alloc (.cells cur e)):=(bp.drew [] w).trans (bp.alloc [] w.drew (.cells cur e)) (by simp)
     have Kq:w.drew.heap.size=w.heap.size:=rfl
     have oz:rowIs (w.drew.alloc (.cells cur e)) e 1 (.slice (some ⟨w.heap.size,0,none⟩) m cap) m (List.replicate m eS):=by
      refine .inl ⟨by simp,.inr ⟨w.heap.size,cap,cur,rfl,Nat.zero_le _,?_,Cp,Fo,by simp [hcs],?_⟩⟩
      · rw [<-Kq];exact heap_alloc_new w.drew _
      · simp only [cur,Array.toList_append,Sf,Nat.mul_one]
        rw [List.take_append_of_le_length (by simp),List.take_of_length_le (by simp)]
     have ra:cap=(cap - 1)+ 1 :=by omega
     have af:∀ q ∈ bA (aC.r (El:=E.T.El) e 0 0 (List.replicate m hU)) (.slice (some ⟨w.heap.size,0,none⟩) m cap),w.heap.size<=q/\q <(w.drew.alloc (.cells cur e)).heap.size:=fun q aT=>by
      rw [ra] at aT
      have:q=w.heap.size:=by simpa [bA,bn.ag] using aT
      subst this
      simp
     have aO:=hm.xz (B:=aC.r e 0 0 (List.replicate m hU)) (h:=.slice (some ⟨w.heap.size,0,none⟩) m cap) im af
     have atZ:∀ (q:Nat) (F:Nat->Prop) (w':World),(E.T.ty e).rd F w' [eS] hU->dS (E.T.ty e) F w' (List.replicate q eS) (List.replicate q hU):=fun q F w' h=>by
      induction q with
      | zero=>rfl
      | succ q bq=>exact ⟨[eS],List.replicate q eS,rfl,h,bq⟩
     refine ⟨_,ρ++[.slice (some ⟨w.heap.size,0,none⟩) m cap],hm.push im af ⟨some ⟨w.heap.size,0,none⟩,cap,List.replicate m eS,by rw [List.length_replicate],by rw [iW,List.length_replicate];exact oz,atZ m _ _ ?_⟩,aO,fun k aj _=>im.block k aj (by simp),_,nu,?_⟩
     · have:=(E.T.ty e).law aO.F fY
       rwa [kU] at this
     · simp only [ar]
       exact ⟨trivial,.slice (some ⟨w.heap.size,0,none⟩) m cap,by rw [<-hm.len];simp,Nat.zero_le _,fun _=>rfl⟩
   · exact h.elim
 · exact h.elim
end
end bn
namespace J
def gh {α:Type} (l:List α) (p:Nat) (ds:List α):List α:=l.take p++ds++l.drop (p+ds.length)
theorem LG {α:Type} {l:List α} {p:Nat} {ds:List α} (h:p+ds.length<=l.length):(gh l p ds).length=l.length:=by
 simp [gh];omega
end J
namespace bn
open Go Go.RowKit au J
theorem aaF (b:Nat):∀ (vs:List Value) (o:Nat) (w:World),bp [b] w (w.setCells b o vs)
 | [],_,w=>bp.refl _ w
 | v::r,o,w=>(bp.set w ⟨b,o,none⟩ v).trans (aaF b r (o+ 1) _) (fun x ad=>.inl ad)
theorem afJ (b:Nat) (e:TypeId) (J5:Nat × Nat):∀ (vs:List Value) (o:Nat) (w:World) (cur:List Value),w.heap[b]? =some (.cells cur.toArray e J5)->o+vs.length<=cur.length ->
 (w.setCells b o vs).heap[b]? =some (.cells (gh cur o vs).toArray e J5)
 | [],o,w,cur,h,_=>by simpa [World.setCells,gh] using h
 | v::r,o,w,cur,h,aq=>by
   simp only [List.length_cons] at aq
   have ag:b <w.heap.size:=by
    rcases Nat.lt_or_ge b w.heap.size with h' | h'
    · exact h'
    · rw [Array.getElem?_eq_none h'] at h;cases h
   have I:(w.setCell ⟨b,o,none⟩ v).heap[b]? =some (.cells (cur.set o v).toArray e J5):=by
    simp only [World.setCell,Array.getElem?_modify,if_pos,h,Option.map_some]
    simp
   have:=afJ b e J5 r (o+ 1) _ (cur.set o v) I (by simp;omega)
   show ((w.setCell ⟨b,o,none⟩ v).setCells b (o+ 1) r).heap[b]? =_
   rw [this]
   have FW:cur.set o v=cur.take o++v::cur.drop (o+ 1):=by rw [List.set_eq_take_append_cons_drop,if_pos (by omega)]
   have aO:(cur.take o).length=o:=by rw [List.length_take];omega
   have ak:(cur.set o v).take (o+ 1)=cur.take o++[v]:=by
    rw [FW,List.take_append,aO,List.take_of_length_le (by rw [aO];omega)]
    simp
   have al:(cur.set o v).drop (o+ 1 +r.length)=cur.drop (o+(v::r).length):=by
    rw [List.drop_set_of_lt (by omega)]
    congr 1
    simp;omega
   simp only [gh]
   rw [ak,al]
   simp
theorem ayg {α:Type} {l ds:List α} {p n:Nat} (h:p+ds.length<=n) (aJ:n<=l.length):(gh l p ds).take n=gh (l.take n) p ds:=VF h aJ
structure Ov (El:Nat->Type) where
 i:Nat
 t:Nat
 g:Nat
 k:Nat
 l:List (El t)
 lo:Int
 hi:Int
def LN {El:Nat->Type} (bl:List (aC El)):aF El->Option (Ov El)
 | .v i g lo hi=>match nth bl i with
   | some (.r t bG k l)=>match Nat.beq g bG with
     | true=>some ⟨i,t,bG,k,l,lo,hi⟩
     | false=>none
   | _=>none
 | .r i g=>match nth bl i with
   | some (.r t bG k l)=>match Nat.beq g bG with
     | true=>some ⟨i,t,bG,k,l,0,(l.length:Int)⟩
     | false=>none
   | _=>none
 | _=>none
def PG (E:Env) (bl:List (aC E.T.El)) (t:Nat) (u v:aF E.T.El):D (ek E.T.El):=match q2 E.P t,LN bl u with
 | some (_,n,_),some p=>match Nat.beq n 1 && Nat.beq (E.T.ty p.t).size 1,Hu E bl p.t v with
   | true,some m=>.op (At (decide (0 <p.l.length))) fun _=>.ok ⟨some (.p (.int .i64 ((m.take (p.hi - p.lo).toNat).length:Int))),bl.set p.i (.r p.t p.g (p.k+ 1) (gh p.l p.lo.toNat (m.take (p.hi - p.lo).toNat))),[p.i]⟩
   | _,_=>.no
 | _,_=>.no
def PF (E:Env) (bl:List (aC E.T.El)) (t:Nat) (u:aF E.T.El):D (ek E.T.El):=match q2 E.P t,LN bl u with
 | some (e,sz,_),some p=>match Nat.beq sz 1 && Nat.beq (E.T.ty p.t).size 1 && !(E.T.e p.t).agg,u4 E p.t e with
   | true,some hU=>.op (At (decide (p.lo <p.hi))) fun _=>.ok ⟨some (.u []),bl.set p.i (.r p.t p.g (p.k+ 1) (gh p.l p.lo.toNat (List.replicate (p.hi - p.lo).toNat hU))),[p.i]⟩
   | _,_=>.no
 | _,_=>.no
section
variable {E:Env} {W w w':World} {M0:List Nat} {X:Nat->Prop} {n:cE} {f:cu E.T.El} {bl:List (aC E.T.El)} {ρ:List Value} {a:Act} {cur:List (Nat × Bool)}
theorem aer (hm:Mem E.T W M0 X bl ρ w) {u:aF E.T.El} {v:Value} {p:Ov E.T.El} (h:LN bl u=some p) (I:(E.T.ty p.t).size= 1) (ah:ar E.T (bh X bl ρ w) w ρ bl u v) :
 bl[p.i]? =some (.r p.t p.g p.k p.l)/\ 0 <=p.lo/\p.lo<=p.hi/\p.hi<=p.l.length/\ ∃ A c B bH,ρ[p.i]? =some (.slice A p.l.length c)/\v= .slice B (p.hi.toNat - p.lo.toNat) bH/\(p.lo <p.hi->B=A.map (·.add p.lo.toNat)):=by
 unfold LN at h
 split at h
 · rename_i i g lo hi
   split at h
   · rename_i t bG k l cR
     rw [cW] at cR
     split at h
     · rename_i ag
       simp only [Option.some.injEq] at h
       subst h
       simp only [ar] at ah
       obtain ⟨_,aM,bk,bF,b1⟩:=ah
       rw [cR] at b1
       obtain ⟨A,n,c,B,ak,al,aV,bS,dw,gR,kM⟩:=b1 (Nat.eq_of_beq_eq_true ag)
       obtain ⟨cj,bH,xs,f1,f2,f3⟩:=hm.ok _ _ _ cR bk
       rw [ak] at f1
       simp only [Value.slice.injEq] at f1
       obtain ⟨rfl,rfl,rfl⟩:=f1
       refine ⟨cR,al,aV,bS,A,c,B,_,ak ▸ bk,dw,fun bE=>?_⟩
       have:=kM bE
       simp only [iz,I,Nat.mul_one] at this
       exact this
     · cases h
   · cases h
 · rename_i i g
   split at h
   · rename_i t bG k l cR
     rw [cW] at cR
     split at h
     · rename_i ag
       simp only [Option.some.injEq] at h
       subst h
       simp only [ar] at ah
       obtain ⟨_,aM,bk,bF,b1⟩:=ah
       rw [cR] at b1
       have e:=b1 (Nat.eq_of_beq_eq_true ag)
       subst e
       obtain ⟨cj,bH,xs,f1,f2,f3⟩:=hm.ok _ _ _ cR bk
       refine ⟨cR,Int.le_refl _,by simp,Int.le_refl _,cj,bH,cj,bH,f1 ▸ bk,by simpa using f1,fun _=>?_⟩
       cases cj with
       | none=>rfl
       | some dY=>
         simp [Addr.add]
     · cases h
   · cases h
 · cases h
theorem aft (hm:Mem E.T W M0 X bl ρ w) {o:Oper} {p:Ov E.T.El} {A:Option Addr} {c:Nat} (hi:bl[p.i]? =some (.r p.t p.g p.k p.l)) (bC:ρ[p.i]? =some (.slice A p.l.length c)) (I:(E.T.ty p.t).size= 1) {q:Nat} {ds:List (E.T.El p.t)} {vs:List Value} (aE:dS (E.T.ty p.t) (bh X bl ρ w) w vs ds) (bE:0 <p.l.length) (hle:q+ds.length<=p.l.length) :
 ∃ dV,A=some ⟨dV,0,none⟩/\vs.length=ds.length/\(∀ j,j <p.l.length->(w.cell? ⟨dV,j,none⟩).isSome=true)/\(∀ j,w.frozen? ⟨dV,j,none⟩=false) /\
   ∀ {r:Value} {y:aF E.T.El},(∀ (F:Nat->Prop) (w:World) (ρ:List Value) (bl:List (aC E.T.El)),ar E.T F w ρ bl y r)->bb E.P o a w r (w.setCells dV q vs)->gG E o a W M0 X bl ρ w ⟨some y,bl.set p.i (.r p.t p.g (p.k+ 1) (gh p.l q ds)),[p.i]⟩:=by
 obtain ⟨cj,bH,xs,f1,f2,f3⟩:=hm.ok _ _ _ hi bC
 simp only [Value.slice.injEq,true_and] at f1
 obtain ⟨rfl,rfl⟩:=f1
 obtain ⟨dV,rfl,ta,hc,kh⟩:=r1 bE f2
 have tA:=uz _ aE
 rw [I,Nat.mul_one] at tA
 have rr:=uz _ f3
 rw [I,Nat.mul_one] at rr
 have kj:=f2.own bE
 rw [I] at kj
 rcases kj.2 with ⟨_,aQ⟩ | ⟨g',cap,cur,ak,al,aV,bS,dw,gR,kM⟩
 · omega
 simp only [Value.slice.injEq,Option.some.injEq,Addr.mk.injEq,and_true,true_and] at ak
 obtain ⟨rfl,rfl⟩:=ak
 rw [Nat.mul_one] at gR kM
 have Rq:(⟨cur.toList⟩:Array Value)=cur:=by simp
 refine ⟨dV,rfl,tA,fun j aI=>?_,fun j=>by simp [World.frozen?,aV],fun {r y} hy nu=>?_⟩
 · have:j <cur.size:=by omega
   simp [World.cell?,aV,this]
 have aD:bA (aC.r p.t p.g p.k p.l) (.slice (some ⟨dV,0,none⟩) p.l.length c)= [dV]:=kh _
 have im:bp (bA (aC.r p.t p.g p.k p.l) (.slice (some ⟨dV,0,none⟩) p.l.length c)) w (w.setCells dV q vs):=by rw [aD];exact aaF dV vs q w
 have atb:=afJ dV p.t (0,0) vs q w cur.toList (by rw [<-Rq] at aV;exact aV) (by simp;omega)
 have oz:rowIs (w.setCells dV q vs) p.t 1 (.slice (some ⟨dV,0,none⟩) p.l.length c) p.l.length (gh xs q vs):=by
  refine .inl ⟨by rw [LG (by omega),rr,Nat.mul_one],.inr ⟨dV,c,_,rfl,al,atb,bS,dw,?_,?_⟩⟩
  · have:=LG (l:=cur.toList) (p:=q) (ds:=vs) (by simp;omega)
    simpa [gR] using this
  · simp only [Nat.mul_one]
    rw [ayg (by omega) (by simp;omega),kM]
 have af:∀ k ∈ bA (aC.r p.t p.g (p.k+ 1) (gh p.l q ds)) (.slice (some ⟨dV,0,none⟩) p.l.length c),k ∈ bA (aC.r p.t p.g p.k p.l) (.slice (some ⟨dV,0,none⟩) p.l.length c)\/(w.heap.size<=k/\k <(w.setCells dV q vs).heap.size):=fun k aj=>.inl aj
 have FH:∀ {h:Value},(¬ kZ h->h=h)/\b5 (some (aC.r p.t p.g p.k p.l))<=b5 (some (aC.r p.t p.g (p.k+ 1) (gh p.l q ds)))/\(b5 (some (aC.r p.t p.g (p.k+ 1) (gh p.l q ds)))=b5 (some (aC.r p.t p.g p.k p.l))->h=h/\iz E.T (some (aC.r p.t p.g (p.k+ 1) (gh p.l q ds)))=iz E.T (some (aC.r p.t p.g p.k p.l))/\gB (some (aC.r p.t p.g p.k p.l))<=gB (some (aC.r p.t p.g (p.k+ 1) (gh p.l q ds)))/\(gB (some (aC.r p.t p.g (p.k+ 1) (gh p.l q ds)))=gB (some (aC.r p.t p.g p.k p.l))->iy (some (aC.r p.t p.g (p.k+ 1) (gh p.l q ds)))=iy (some (aC.r p.t p.g p.k p.l)))):=fun {h}=>
  ⟨fun _=>rfl,Nat.le_refl _,fun _=>⟨rfl,rfl,Nat.le_succ _,fun e=>by simp [gB] at e⟩⟩
 have aO:=hm.Dx (B':=aC.r p.t p.g (p.k+ 1) (gh p.l q ds)) (h':=.slice (some ⟨dV,0,none⟩) p.l.length c) hi bC im af FH
 have ao:=Ds bC
 have fY:dS (E.T.ty p.t) (bh X (bl.set p.i (.r p.t p.g (p.k+ 1) (gh p.l q ds))) ρ (w.setCells dV q vs)) (w.setCells dV q vs) (gh xs q vs) (gh p.l q ds):=by
  rw [ao] at aO
  have cD:=mR _ aO.F f3
  have dM:=mR _ aO.F aE
  have c1:=rZ 0 q cD
  have c2:=rZ (q+ds.length) p.l.length cD
  rw [I] at c1 c2
  simp only [Nat.mul_one,Nat.zero_mul,List.drop_zero] at c1 c2
  rw [List.take_of_length_le (by omega),List.take_of_length_le (by omega)] at c2
  have:=G1 _ c2 (G1 _ dM c1)
  unfold gh
  rw [tA]
  exact this
 have dH:=hm.uH (B':=aC.r p.t p.g (p.k+ 1) (gh p.l q ds)) (h':=.slice (some ⟨dV,0,none⟩) p.l.length c) hi bC im af aO (by
  rw [ao]
  exact ⟨some ⟨dV,0,none⟩,c,gh xs q vs,by rw [LG hle],by rw [I,LG hle];exact oz,fY⟩)
 rw [ao] at dH aO
 exact ⟨_,ρ,dH,aO,fun k aj cN=>im.block k aj (cN p.i (by simp) _ _ hi bC),r,nu,hy _ _ _ _⟩
theorem aqR (a3:c8 E) (hm:Mem E.T W M0 X bl ρ w) {o:Oper} {t:Nat} {x y:Operand} {u v:aF E.T.El} {r:ek E.T.El} (h:(PG E bl t u v).out r) (av:o.op= .call { callee:=.builtin .copy,args:=#[x,y],argTypes:=#[t,t] })
 (ad:ar E.T (bh X bl ρ w) w ρ bl u (a.eval x)) (hy:ar E.T (bh X bl ρ w) w ρ bl v (a.eval y)):gG E o a W M0 X bl ρ w r:=by
 unfold PG at h
 split at h
 · rename_i e n b2 p he aN
   obtain ⟨hu,i0,eK,jQ,mF,fP,iW,ab9,gS,at6⟩:=vO he
   split at h
   · rename_i m ag R5
     simp only [Bool.and_eq_true] at ag
     have aJ:=Nat.eq_of_beq_eq_true ag.1
     have I:=Nat.eq_of_beq_eq_true ag.2
     subst aJ
     obtain ⟨_,pP,h⟩:=h
     have pP:0 <p.l.length:=of_decide_eq_true (Tx pP)
     have h:(⟨some (.p (.int .i64 ((m.take (p.hi - p.lo).toNat).length:Int))),bl.set p.i (.r p.t p.g (p.k+ 1) (gh p.l p.lo.toNat (m.take (p.hi - p.lo).toNat))),[p.i]⟩:ek E.T.El)=r:=h
     subst h
     obtain ⟨hi,l1,cB,iY,A,c,B,bH,bC,ak,al⟩:=aer hm aN I ad
     obtain ⟨c7,c2,news,s1,s2,xl⟩:=afT a3 hm R5 hy
     have FO:=uz _ xl
     rw [I,Nat.mul_one] at FO
     have aj:(m.take (p.hi - p.lo).toNat).length=Nat.min m.length (p.hi.toNat - p.lo.toNat):=by
      rw [List.length_take,Nat.min_comm]
      congr 1
      omega
     have rf:=rZ 0 (p.hi - p.lo).toNat xl
     rw [I] at rf
     simp only [Nat.mul_one,Nat.zero_mul,List.drop_zero] at rf
     have Ky:(E.P.info? e).map (·.size)=some 1 :=by rw [jQ];simp [fP]
     obtain ⟨dV,rfl,tA,il,Rx,fin⟩:=aft (o:=o) (a:=a) (q:=p.lo.toNat) hm hi bC I rf pP (by rw [aj];have:=Nat.min_le_right m.length (p.hi.toNat - p.lo.toNat);have e:Nat.min m.length (p.hi.toNat - p.lo.toNat)=min m.length (p.hi.toNat - p.lo.toNat):=rfl;omega)
     refine fin (r:=.int .i64 ((m.take (p.hi - p.lo).toNat).length:Int)) (fun F w ρ bl=>by simp only [ar]) ?_
     rcases Nat.eq_zero_or_pos (m.take (p.hi - p.lo).toNat).length with aQ | aQ
     · have fO:=run_copy_none (P:=E.P) w t t o.type e B c7 (p.hi.toNat - p.lo.toNat) bH m.length c2 hu Ky (by rw [<-aj];exact aQ)
       have ch:news.take (p.hi - p.lo).toNat= []:=List.eq_nil_of_length_eq_zero (tA.trans aQ)
       rw [ch,aQ]
       simp only [bb,execOp,av,resolve,invoke,builtin,Sem.run_bind,Sem.run_pure,Result.andThen_ok,List.map_toArray,List.map_cons,List.map_nil,ak,s1,fO]
       rfl
     · have bE:p.lo <p.hi:=by
        rw [aj] at aQ
        have e:Nat.min m.length (p.hi.toNat - p.lo.toNat)=min m.length (p.hi.toNat - p.lo.toNat):=rfl
        omega
       rcases s2 with ⟨bk,_⟩ | ⟨dY,rfl,bF,b1,gy⟩
       · rw [aj,bk] at aQ
         have e:Nat.min 0 (p.hi.toNat - p.lo.toNat)=min 0 (p.hi.toNat - p.lo.toNat):=rfl
         omega
       · have bO:=al bE
         have bO:B=some ⟨dV,p.lo.toNat,none⟩:=by rw [bO];simp [Addr.add];try omega
         subst bO
         have fO:=run_copy_cells (P:=E.P) w t t o.type e dV p.lo.toNat (p.hi.toNat - p.lo.toNat) bH dY m.length c2 (news.take (p.hi - p.lo).toNat) hu Ky (by rw [tA,aj]) (fun j u aI=>by
          rw [List.getElem?_take] at aI
          split at aI
          · exact b1 j u aI
          · cases aI) (fun j aI=>il _ (by rw [tA,aj] at aI;have e:Nat.min m.length (p.hi.toNat - p.lo.toNat)=min m.length (p.hi.toNat - p.lo.toNat):=rfl;omega)) (fun j _=>Rx _) (fun v ah=>gy v (List.mem_of_mem_take ah))
         rw [<-tA]
         simp only [bb,execOp,av,resolve,invoke,builtin,Sem.run_bind,Sem.run_pure,Result.andThen_ok,List.map_toArray,List.map_cons,List.map_nil,ak,s1,fO]
         rfl
   · exact h.elim
 · exact h.elim
theorem aqQ (a3:c8 E) (hm:Mem E.T W M0 X bl ρ w) {o:Oper} {t:Nat} {x:Operand} {u:aF E.T.El} {r:ek E.T.El} (h:(PF E bl t u).out r) (av:o.op= .call { callee:=.builtin .clear,args:=#[x],argTypes:=#[t] })
 (ad:ar E.T (bh X bl ρ w) w ρ bl u (a.eval x)):gG E o a W M0 X bl ρ w r:=by
 unfold PF at h
 split at h
 · rename_i e n b2 p he aN
   obtain ⟨hu,i0,eK,jQ,mF,fP,iW,ab9,gS,at6⟩:=vO he
   split at h
   · rename_i hU ag ai
     simp only [Bool.and_eq_true] at ag
     have s8:(E.T.e p.t).agg=false:=by simpa using ag.2
     have aJ:=Nat.eq_of_beq_eq_true ag.1.1
     have I:=Nat.eq_of_beq_eq_true ag.1.2
     subst aJ
     obtain ⟨_,pP,h⟩:=h
     have bE:p.lo <p.hi:=of_decide_eq_true (Tx pP)
     have h:(⟨some (.u []),bl.set p.i (.r p.t p.g (p.k+ 1) (gh p.l p.lo.toNat (List.replicate (p.hi - p.lo).toNat hU))),[p.i]⟩:ek E.T.El)=r:=h
     subst h
     obtain ⟨hi,l1,cB,iY,A,c,B,bH,bC,ak,al⟩:=aer hm aN I ad
     obtain ⟨eS,kU⟩:∃ eS,eK.cells= #[eS]:=by
      revert ab9
      generalize eK.cells=cs
      obtain ⟨l⟩:=cs
      intro aw
      cases l with
      | nil=>simp at aw
      | cons c r=>cases r with
        | nil=>exact ⟨c,rfl⟩
        | cons _ _=>simp at aw
     have fY:(E.T.ty p.t).rd (bh X bl ρ w) w [eS] hU/\eK=eS:=by
      unfold u4 at ai
      split at ai
      · rename_i IB jS
        split at ai
        · rename_i aut
          have ak:IB=eK:=by
           simp only [Ed,jQ] at jS
           rw [mF] at jS
           exact (Option.some.inj jS).symm
          subst ak
          have:=a3.tb.gT _ _ _ ai (bh X bl ρ w) w ρ bl _ (ql _)
          rw [kU] at this
          have abk:=ajS aut
          rw [s8,kU] at abk
          exact ⟨this,abk⟩
        · cases ai
      · cases ai
     obtain ⟨fY,F2⟩:=fY
     have zK:eS.oneCell'=true:=(E.T.ty p.t).one fY eS (by simp)
     have iU:dS (E.T.ty p.t) (bh X bl ρ w) w (List.replicate (p.hi - p.lo).toNat eS) (List.replicate (p.hi - p.lo).toNat hU):=by
      generalize (p.hi - p.lo).toNat=q
      induction q with
      | zero=>rfl
      | succ q bq=>exact ⟨[eS],List.replicate q eS,rfl,fY,bq⟩
     obtain ⟨dV,rfl,tA,il,Rx,fin⟩:=aft (o:=o) (a:=a) (q:=p.lo.toNat) hm hi bC I iU (by omega) (by rw [List.length_replicate];omega)
     refine fin (fun F w ρ bl=>by simp only [ar];exact ⟨[],rfl,by simp [a4]⟩) ?_
     have bO:=al bE
     have bO:B=some ⟨dV,p.lo.toNat,none⟩:=by rw [bO];simp [Addr.add];try omega
     subst bO
     have fO:=Lib.run_clear_slice (P:=E.P) w t e o.type eK hu (fun w=>by simp only [zeroValue,typeInfo,Sem.run_bind];simp [go_sem,jQ,mF]) (by rw [kU,F2]) (by rw [F2];exact zK) dV p.lo.toNat (p.hi.toNat - p.lo.toNat) bH (by omega) (fun j aI=>il _ (by omega)) (fun j _=>Rx _)
     have e:p.hi.toNat - p.lo.toNat=(p.hi - p.lo).toNat:=by omega
     rw [e,F2] at fO
     simp only [bb,execOp,av,resolve,invoke,builtin,Sem.run_bind,Sem.run_pure,Result.andThen_ok,List.map_toArray,List.map_cons,List.map_nil,ak,e,fO]
   · exact h.elim
 · exact h.elim
end
end bn
namespace bn
open Go Go.RowKit au J
def JM (E:Env) (bl:List (aC E.T.El)) (f:cu E.T.El) (cur:List (Nat × Bool)):Op->D (ek E.T.El)
 | .alloc t=>match Bt E.P t with
   | some z=>.ok ⟨some (.b bl.length 0),bl++[.c t (z.map .p)],[]⟩
   | none=>.no
 | .box t x=>match cS E bl f cur x with
   | some y=>.ok ⟨some (.b bl.length 0),bl++[.c t (cellsOf y)],[]⟩
   | none=>.no
 | .makeMap t none=>match mapOf E.P t with
   | some (k,e)=>match (E.T.e k).key with
     | some _=>.ok ⟨some (.m bl.length),bl++[.m k e []],[]⟩
     | none=>.no
   | none=>.no
 | .store t p x=>match cS E bl f cur p,cS E bl f cur x with
   | some u,some v=>PU E bl t u v
   | _,_=>.no
 | .mapUpdate t m k x=>match cS E bl f cur m,cS E bl f cur k,cS E bl f cur x with
   | some u,some v,some z=>JN E bl t u v z
   | _,_,_=>.no
 | .insert t m k x=>match cS E bl f cur m,cS E bl f cur k,cS E bl f cur x with
   | some u,some v,some z=>JN E bl t u v z
   | _,_,_=>.no
 | .buildSlice t n ⟨ps⟩=>match C4 E bl f cur ps with
   | some ys=>PK E bl t n ys
   | none=>.no
 | .makeSlice t x y=>match cS E bl f cur x with
   | some u=>PQ E bl t x y u
   | none=>.no
 | .convert s d x=>match cS E bl f cur x with
   | some u=>PV E bl s d u
   | none=>.no
 | .call ⟨.builtin .append,⟨[x,y]⟩,⟨[t,t']⟩⟩=>match Nat.beq t t',cS E bl f cur x,cS E bl f cur y with
   | true,some u,some v=>PB E bl t u v
   | false,some u,some v=>PC E bl t t' u v
   | _,_,_=>.no
 | .call ⟨.builtin .copy,⟨[x,y]⟩,⟨[t,t']⟩⟩=>match Nat.beq t t',cS E bl f cur x,cS E bl f cur y with
   | true,some u,some v=>PG E bl t u v
   | _,_,_=>.no
 | .call ⟨.builtin .clear,⟨[x]⟩,⟨[t]⟩⟩=>match cS E bl f cur x with
   | some u=>PF E bl t u
   | none=>.no
 | _=>.no
section
variable {E:Env} {W w w':World} {M0:List Nat} {X:Nat->Prop} {n:cE} {f:cu E.T.El} {bl:List (aC E.T.El)} {ρ:List Value} {a:Act} {cur:List (Nat × Bool)}
theorem aqU (a3:c8 E) (h:R E W M0 X n f bl ρ a w) (hc:iS a cur) {o:Oper} {op:Op} (av:o.op=op) {r:ek E.T.El} (ai:(JM E bl f cur op).out r):gG E o a W M0 X bl ρ w r:=by
 unfold JM at ai
 split at ai
 · rename_i t
   split at ai
   · rename_i z I
     have ai:(⟨some (.b bl.length 0),bl++[.c t (z.map .p)],[]⟩:ek E.T.El)=r:=ai
     subst ai
     obtain ⟨eK,bg,bf⟩:=IA I
     exact adM h.mem (ql z) (yj bg bf av)
   · exact ai.elim
 · rename_i t x
   split at ai
   · rename_i y I
     have ai:(⟨some (.b bl.length 0),bl++[.c t (cellsOf y)],[]⟩:ek E.T.El)=r:=ai
     subst ai
     exact adM h.mem (nf (di h hc I)) (NI (v:=a.eval x) (by simp) av rfl)
   · exact ai.elim
 · rename_i t
   split at ai
   · rename_i k e I
     split at ai
     · rename_i K aa
       have ai:(⟨some (.m bl.length),bl++[.m k e []],[]⟩:ek E.T.El)=r:=ai
       subst ai
       exact axt h.mem aa (aF4 av)
     · exact ai.elim
   · exact ai.elim
 · split at ai
   · rename_i u v I aa
     exact aq7 a3 h.mem ai av (di h hc I) (di h hc aa)
   · exact ai.elim
 · split at ai
   · rename_i u v z I aa aw
     exact aaD a3 h.mem ai (.inl av) (di h hc I) (di h hc aa) (di h hc aw)
   · exact ai.elim
 · split at ai
   · rename_i u v z I aa aw
     exact aaD a3 h.mem ai (.inr av) (di h hc I) (di h hc aa) (di h hc aw)
   · exact ai.elim
 · split at ai
   · rename_i ys I
     exact aqY a3 h.mem ai av (TD h hc I)
   · exact ai.elim
 · split at ai
   · rename_i u I
     exact aq3 a3 h.mem ai av (di h hc I)
   · exact ai.elim
 · split at ai
   · rename_i u I
     exact aq8 a3 h.mem ai av (di h hc I)
   · exact ai.elim
 · rename_i x y t t'
   split at ai
   · rename_i u v I aa aw
     have:=Nat.eq_of_beq_eq_true I
     subst this
     exact aqN a3 h.mem ai av (di h hc aa) (di h hc aw)
   · rename_i u v I aa aw
     exact aqM a3 h.mem ai av (di h hc aa) (di h hc aw)
   · exact ai.elim
 · rename_i x y t t'
   split at ai
   · rename_i u v I aa aw
     have:=Nat.eq_of_beq_eq_true I
     subst this
     exact aqR a3 h.mem ai av (di h hc aa) (di h hc aw)
   · exact ai.elim
 · split at ai
   · rename_i u I
     exact aqQ a3 h.mem ai av (di h hc I)
   · exact ai.elim
 · exact ai.elim
end
inductive IV
 | q
 | e
 | c
 | no
def KS (P:Program):Op->IV
 | .call c=>match c.callee with
   | .value _=>.c
   | .builtin .len=>.q
   | .builtin .cap=>.q
   | .builtin .append=>.e
   | .builtin .copy=>.e
   | .builtin .clear=>.e
   | _=>.no
 | .alloc _ | .box _ _ | .makeMap _ _ | .store _ _ _ | .mapUpdate _ _ _ _ | .insert _ _ _ _ | .buildSlice _ _ _ | .makeSlice _ _ _=>.e
 | .convert s _ _=>match P.underlying s with
   | some .string=>.e
   | _=>.q
 | .move _ | .assign _ | .pick _ _ _ | .binOp _ _ _ _ _ | .unOp _ _ _ | .load _ _ | .fieldAddr _ _ _ | .nilCheck _ | .extract _ _ | .makeFunc _ _ _ | .makeInterface _ _ | .indexAddr _ _ _ | .index _ _ _
   | .slice _ _ _ _ _ | .lookup _ _ _ _ | .field _ _ _ | .build _ _=>.q
 | _=>.no
inductive X6
 | run
 | skip
 | maybe (bx:Nat) (want b:Bool)
 | cond (bx:Nat) (want:Bool)
 | no
def BU:Bool->Bool->Bool
 | true,true=>true
 | false,false=>true
 | _,_=>false
theorem vD {a b:Bool}:BU a b=true ↔ a=b:=by cases a <;> cases b <;> simp [BU]
def J9 (E:Env) (ops:Array Oper) (f:cu E.T.El) (n:Nat):Option (Nat × Bool)->X6
 | none=>.run
 | some (j,want)=>match E8 ops j with
   | none=>.no
   | some bx=>match Nat.blt bx n with
     | false=>.no
     | true=>match cJ f.eb bx with
       | some b=>match BU b want with
         | true=>.run
         | false=>.skip
       | none=>match cJ f.fr bx with
         | some (.p (.tuple ⟨[]⟩))=>.skip
         | some (.p (.bool b))=>match E.fB with
           | true=>match BU b want with
             | true=>.run
             | false=>.skip
           | false=>.maybe bx want b
         | some _=>.no
         | none=>.cond bx want
section
variable {E:Env} {W w w':World} {M0:List Nat} {X:Nat->Prop} {n:cE} {f:cu E.T.El} {bl:List (aC E.T.El)} {ρ:List Value} {a:Act} {cur:List (Nat × Bool)} {ops:Array Oper} {o:Oper}
theorem aCu {j bx:Nat} {want:Bool} (ao:a.tmps.size=n.n) (ax:o.guard=some (j,want)) (aI:(ops[j]?).bind (·.dst)=some bx) (aJ:Nat.blt bx n.n=true) :
 Region.wanted o (yielded ops a.tmps)=true ↔ a.tmps.getD bx undef= .bool want:=by
 have bE:bx <n.n:=Nat.le_of_ble_eq_true aJ
 have aa:a.tmps[bx]? =some (a.tmps.getD bx undef):=by
  rw [Array.getElem?_eq_getElem (by omega)]
  simp [Array.getD_eq_getD_getElem?,ao,bE]
 simp only [Region.wanted,ax,yielded,aI,Option.bind_some,aa,beq_iff_eq]
 constructor
 · intro h
   split at h
   · rename_i b ag
     simp only [Option.some.injEq] at h ag
     rw [ag,h]
   · cases h
 · intro h
   rw [h]
def anP (E:Env) (ops:Array Oper) (o:Oper) (a:Act) (f:cu E.T.El) (n:Nat):X6->Prop
 | .run=>Region.wanted o (yielded ops a.tmps)=true
 | .skip=>Region.wanted o (yielded ops a.tmps)=false
 | .maybe bx want b=>Nat.blt bx n=true/\a.tmps.getD bx undef= .bool b/\(Region.wanted o (yielded ops a.tmps)=true ↔ a.tmps.getD bx undef= .bool want)
 | .cond bx want=>Nat.blt bx n=true/\(Region.wanted o (yielded ops a.tmps)=true ↔ a.tmps.getD bx undef= .bool want)
 | .no=>True
theorem aa3 (h:R E W M0 X n f bl ρ a w):anP E ops o a f n.n (J9 E ops f n.n o.guard):=by
 have ao:=h.eD.e7.size
 cases ax:o.guard with
 | none=>exact MJ ax
 | some p=>
   obtain ⟨j,want⟩:=p
   simp only [J9]
   split
   · trivial
   · rename_i bx rh
     have zD:=abh rh
     split
     · trivial
     · rename_i aJ
       have hw:=aCu (ops:=ops) (o:=o) ao ax zD aJ
       split
       · rename_i b aj
         have e:=h.eD.eb _ (mK aj)
         split
         · rename_i ag
           rw [vD] at ag
           subst ag
           exact hw.2 e
         · rename_i ag
           refine (Bool.eq_false_iff).2 fun ad=>?_
           have:=hw.1 ad
           rw [e] at this
           injection this with this
           rw [vD.2 this] at ag
           cases ag
       · split
         · rename_i af
           have e:=h.eD.e7.get _ _ af
           simp only [ar] at e
           refine (Bool.eq_false_iff).2 fun ad=>?_
           have:=hw.1 ad
           rw [e] at this
           cases this
         · rename_i b af
           have e:=h.eD.e7.get _ _ af
           simp only [ar] at e
           split
           · split
             · rename_i ag
               rw [vD] at ag
               subst ag
               exact hw.2 e
             · rename_i ag
               refine (Bool.eq_false_iff).2 fun ad=>?_
               have:=hw.1 ad
               rw [e] at this
               injection this with this
               rw [vD.2 this] at ag
               cases ag
           · exact ⟨aJ,e,hw⟩
         · trivial
         · exact ⟨aJ,hw⟩
end
end bn
namespace bn
open Go Go.RowKit au J
section
variable {α:Type} {β:Type 1}
noncomputable def q6 (l:List α) (k:List α->β):β:=List.rec (motive:=fun _=>(List α->β)->β) (fun k=>k []) (fun p _ bq k=>bq fun r=>k (p::r)) l k
theorem P_ (l:List α):∀ k:List α->β,q6 l k=k l:=by
 induction l with
 | nil=>exact fun k=>rfl
 | cons p r bq=>exact fun k=>bq fun r=>k (p::r)
noncomputable def om (n:Nat) (k:Nat->β):β:=Nat.casesOn (motive:=fun _=>β) n (k 0) fun m=>k (Nat.succ m)
theorem JZ (n:Nat) (k:Nat->β):om n k=k n:=by cases n <;> rfl
noncomputable def JY (n:Int) (k:Int->β):β:=Int.casesOn (motive:=fun _=>β) n (fun m=>om m fun m=>k (Int.ofNat m)) (fun m=>om m fun m=>k (Int.negSucc m))
theorem aaU (n:Int) (k:Int->β):JY n k=k n:=by
 cases n
 · rename_i m;exact JZ m fun m=>k (Int.ofNat m)
 · rename_i m;exact JZ m fun m=>k (Int.negSucc m)
noncomputable def aaT (b:Bool) (k:Bool->β):β:=Bool.casesOn (motive:=fun _=>β) b (k false) (k true)
theorem aru (b:Bool) (k:Bool->β):aaT b k=k b:=by cases b <;> rfl
noncomputable def P' (v:Value) (k:Value->β):β:=match v with
 | .int i n=>JY n fun n=>k (.int i n)
 | .bool b=>aaT b fun b=>k (.bool b)
 | v=>k v
theorem ary (v:Value) (k:Value->β):P' v k=k v:=by
 unfold P'
 split
 · exact aaU _ _
 · exact aru _ _
 · rfl
variable {El:Nat->Type}
noncomputable def Qa (y:aF El) (k:aF El->β):β:=match y with
 | .p v=>P' v fun v=>k (.p v)
 | .b i o=>om i fun i=>om o fun o=>k (.b i o)
 | .r i g=>om i fun i=>om g fun g=>k (.r i g)
 | .v i g lo hi=>om i fun i=>om g fun g=>JY lo fun lo=>JY hi fun hi=>k (.v i g lo hi)
 | .s t l=>q6 l fun l=>k (.s t l)
 | .a l=>q6 l fun l=>k (.a l)
 | y=>k y
theorem arz (y:aF El) (k:aF El->β):Qa y k=k y:=by
 unfold Qa
 split <;> simp only [ary,JZ,aaU,P_]
noncomputable def JX (B:aC El) (k:aC El->β):β:=match B with
 | .c ty cs=>q6 cs fun cs=>k (.c ty cs)
 | .r t g n l=>om g fun g=>om n fun n=>q6 l fun l=>k (.r t g n l)
 | .k t sz g cs=>om g fun g=>q6 cs fun cs=>k (.k t sz g cs)
 | .m kt vt d=>q6 d fun d=>k (.m kt vt d)
 | B=>k B
theorem arw (B:aC El) (k:aC El->β):JX B k=k B:=by
 unfold JX
 split <;> simp only [JZ,P_]
noncomputable def JW (ws:List Nat) (iq:Nat) (l:List (aC El)):Nat->(List (aC El)->β)->β:=List.rec (motive:=fun _=>Nat->(List (aC El)->β)->β) (fun _ k=>k []) (fun B _ bq n k=>cond (e0 ws n || Nat.ble iq n) (JX B fun B=>bq (n+ 1) fun r=>k (B::r)) (bq (n+ 1) fun r=>k (B::r))) l
theorem arv (ws:List Nat) (iq:Nat) (l:List (aC El)):∀ (n:Nat) (k:List (aC El)->β),JW ws iq l n k=k l:=by
 induction l with
 | nil=>exact fun n k=>rfl
 | cons B r bq=>
   intro n k
   show cond (e0 ws n || Nat.ble iq n) (JX B fun B=>JW ws iq r (n+ 1) fun r=>k (B::r)) (JW ws iq r (n+ 1) fun r=>k (B::r))=_
   rw [arw,bq]
   cases e0 ws n || Nat.ble iq n <;> rfl
noncomputable def P9 (f:cu El) (k:cu El->β):β:=match f with
 | ⟨(d,y)::r,gs,eb⟩=>Qa y fun y=>q6 r fun r=>q6 gs fun gs=>q6 eb fun eb=>k ⟨(d,y)::r,gs,eb⟩
 | f=>k f
theorem arx (f:cu El) (k:cu El->β):P9 f k=k f:=by
 unfold P9
 split <;> simp only [arz,P_]
end
noncomputable def Av (E:Env) {β:Type 1} (f:cu E.T.El) (k:cu E.T.El->β):β:=match E.fB with
 | true=>P9 f k
 | false=>k f
theorem Aw {E:Env} {β:Type 1} (f:cu E.T.El) (k:cu E.T.El->β):Av E f k=k f:=by
 unfold Av
 split
 · exact arx f k
 · rfl
noncomputable def Gy (E:Env) {β:Type 1} (ws:List Nat) (iq:Nat) (l:List (aC E.T.El)) (k:List (aC E.T.El)->β):β:=match E.fB with
 | true=>JW ws iq l 0 k
 | false=>k l
theorem Lz {E:Env} {β:Type 1} (ws:List Nat) (iq:Nat) (l:List (aC E.T.El)) (k:List (aC E.T.El)->β):Gy E ws iq l k=k l:=by
 unfold Gy
 split
 · exact arv ws iq l 0 k
 · rfl
end bn
