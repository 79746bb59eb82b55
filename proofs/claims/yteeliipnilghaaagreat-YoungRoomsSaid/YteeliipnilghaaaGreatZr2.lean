/- Part 2 of the proof that is ended in the last text: small logic, what the functions compute, walks, plain laws. -/
import Derived.Test.YteeliipnilghaaaGreatZr1
import Derived.Lib.AppendStr
import Derived.Lib.UnsafeStr
import Derived.Lib.Builder
import Derived.Laws.Externs
import Derived.LaidEql
import Derived.WalkSmall
import Derived.Laws.IdiomCopy
import Derived.Lib.SliceRun
namespace bK
open Go Go.RowKit ay I
def ai:Value->List Nat
 | .pointer (some a)=>[a.block]
 | .map (some r)=>[r]
 | .slice (some a) _ (_+ 1)=>[a.block]
 | _=>[]
def bD {El:Nat->Type}:aI El->Value->List Nat
 | .z _ _ _ _,_=>[]
 | .no _,_=>[]
 | _,h=>ai h
def ma {El:Nat->Type} (bl:List (aI El)) (ρ:List Value) (k:Nat):Prop:=∃ (i:Nat) (B:aI El) (h:Value),bl[i]? =some B/\ρ[i]? =some h/\k ∈ bD B h
def bs {El:Nat->Type} (X:Nat->Prop) (bl:List (aI El)) (ρ:List Value) (w:World):Nat->Prop:=fun k=>¬ X k/\ ¬ ma bl ρ k/\k <w.heap.size
def rowIs (w:World) (t sz:Nat) (h:Value) (n:Nat) (xs:List Value):Prop:=w.ownsRow 0 t sz h n xs\/(n= 0 /\xs= []/\ ∃ A,h= .slice A 0 0)
section
variable (T:b_) (F:Nat->Prop) (w:World)
variable (ρ:List Value) (bl:List (aI T.El))
def hp:aI T.El->Value->Prop
 | .c ty cs,h=>∃ g vs,h= .pointer (some ⟨g,0,none⟩)/\w.heap[g]? =some (.cells ⟨vs⟩ ty (0,0))/\bc T F w ρ bl cs vs
 | .r t _ _ l,h=>∃ A c xs,h= .slice A l.length c/\rowIs w t (T.ty t).size h l.length xs/\dF (T.ty t) F w xs l
 | .k t sz _ cs,h=>∃ A n c xs,h= .slice A n c/\rowIs w t sz h n xs/\bc T F w ρ bl cs xs
 | .z t _ _ l,h=>(ca (T.ty t)).rd F w [h] l
 | .m b1 vt d,h=>∃ r,h= .map (some r)/\rY T F w b1 vt r d
 | .o OY,h=>∃ g,h= .pointer (some ⟨g,0,none⟩)/\w.heap[g]? =some OY
 | .no _,_=>True
end
section
variable {T:b_} {F F':Nat->Prop} {w w':World} {ρ ρ':List Value} {bl bl':List (aI T.El)}
theorem rowIs.len {t sz n:Nat} {h:Value} {xs:List Value} (e:rowIs w t sz h n xs):xs.length=n*sz:=by
 rcases e with e | ⟨rfl,rfl,_⟩
 · exact e.1
 · simp
theorem rowIs.own {t sz n:Nat} {h:Value} {xs:List Value} (e:rowIs w t sz h n xs) (aS:0 <n):w.ownsRow 0 t sz h n xs:=by
 rcases e with e | ⟨rfl,_⟩
 · exact e
 · omega
theorem rowIs.cap {t sz n c:Nat} {A:Option Addr} {xs:List Value} (e:rowIs w t sz (.slice A n c) n xs):n<=c/\c<=maxLen/\(A=none->c= 0)/\(0 <c-> ∃ g,A=some ⟨g,0,none⟩):=by
 rcases e with e | ⟨rfl,_,db,e⟩
 · rcases e.2 with ⟨J,aY⟩ | ⟨g,cap,cur,J,_,_,aa,az,_⟩
   · simp only [Value.slice.injEq] at J
     obtain ⟨rfl,rfl,rfl⟩:=J
     exact ⟨Nat.le_refl _,Nat.zero_le _,fun _=>rfl,fun h=>by omega⟩
   · simp only [Value.slice.injEq] at J
     obtain ⟨rfl,_,rfl⟩:=J
     exact ⟨aa,az,(fun h=>by cases h),fun _=>⟨g,rfl⟩⟩
 · simp only [Value.slice.injEq] at e
   obtain ⟨rfl,_,rfl⟩:=e
   exact ⟨Nat.le_refl _,Nat.zero_le _,fun _=>rfl,fun h=>by omega⟩
theorem rowIs.later {t sz n c:Nat} {A:Option Addr} {xs:List Value} (e:rowIs w t sz (.slice A n c) n xs) (ar:∀ k ∈ ai (.slice A n c),w'.heap[k]? =w.heap[k]?):rowIs w' t sz (.slice A n c) n xs:=by
 cases c with
 | zero=>
   have J:=e.cap.1
   have aa:=e.len
   have aS:n= 0 :=by omega
   subst aS
   exact .inr ⟨rfl,List.eq_nil_of_length_eq_zero (by rw [aa];simp),A,rfl⟩
 | succ c=>
   rcases e with e | ⟨rfl,_,db,e⟩
   · left
     have:=(ba.row t sz (.slice A n (c+ 1)) (List.replicate n ()) xs).law w w' (fun k ak=>ar k (by cases A with | none=>simp [ba.row,Value.ownBlock] at ak | some a=>simpa [ai,ba.row,Value.ownBlock] using ak))
     simpa [ba.row] using this (by simpa [ba.row] using e)
   · simp at e
theorem hp.later (aR:∀ k,F k->F' k/\w'.heap[k]? =w.heap[k]?) (au:lm T ρ ρ' bl bl') {B:aI T.El} {h:Value} (ar:∀ k ∈ bD B h,w'.heap[k]? =w.heap[k]?) (bZ:hp T F w ρ bl B h):hp T F' w' ρ' bl' B h:=by
 cases B with
 | c ty cs=>
   obtain ⟨g,vs,rfl,aa,az⟩:=bZ
   exact ⟨g,vs,rfl,(ar g (by simp [bD,ai])).trans aa,bc.later aR au cs az⟩
 | r t g k l=>
   obtain ⟨A,c,xs,rfl,aa,az⟩:=bZ
   exact ⟨A,c,xs,rfl,aa.later ar,k7 _ aR az⟩
 | k t sz g cs=>
   obtain ⟨A,n,c,xs,rfl,aa,az⟩:=bZ
   exact ⟨A,n,c,xs,rfl,aa.later ar,bc.later aR au cs az⟩
 | z t g k l=>exact (ca (T.ty t)).law aR bZ
 | m b1 vt d=>
   obtain ⟨r,rfl,aa⟩:=bZ
   exact ⟨r,rfl,aa.law aR (ar r (by simp [bD,ai]))⟩
 | o OY=>
   obtain ⟨g,rfl,aa⟩:=bZ
   exact ⟨g,rfl,(ar g (by simp [bD,ai])).trans aa⟩
 | no g=>trivial
end
structure Mem (T:b_) (W:World) (aD:List Nat) (X:Nat->Prop) (bl:List (aI T.El)) (ρ:List Value) (w:World):Prop where
 cr:bw aD W w
 len:ρ.length=bl.length
 gZ:∀ k,X k->k <W.heap.size/\k ∉ aD
 lt:∀ k,ma bl ρ k->k <w.heap.size/\(k ∈ aD\/W.heap.size<=k)
 bA:∀ (i j:Nat) (B C:aI T.El) (h g:Value),bl[i]? =some B->ρ[i]? =some h->bl[j]? =some C->ρ[j]? =some g->i≠j-> ∀ k ∈ bD B h,k ∉ bD C g
 ok:∀ (i:Nat) (B:aI T.El) (h:Value),bl[i]? =some B->ρ[i]? =some h->hp T (bs X bl ρ w) w ρ bl B h
section
variable {T:b_} {W w w':World} {aD:List Nat} {X:Nat->Prop} {bl bl':List (aI T.El)} {ρ ρ':List Value}
abbrev Mem.F (_:Mem T W aD X bl ρ w):Nat->Prop:=bs X bl ρ w
structure To (X:Nat->Prop) (bl bl':List (aI T.El)) (ρ ρ':List Value) (w w':World):Prop where
 F:∀ k,bs X bl ρ w k->bs X bl' ρ' w' k/\w'.heap[k]? =w.heap[k]?
 L:lm T ρ ρ' bl bl'
 sz:w.heap.size<=w'.heap.size
 mv:∀ (i:Nat) (B':aI T.El) (h':Value),bl'[i]? =some B'->ρ'[i]? =some h'-> ∀ k ∈ bD B' h',k <w.heap.size-> ∃ B h,bl[i]? =some B/\ρ[i]? =some h/\k ∈ bD B h
theorem To.v (h:To X bl bl' ρ ρ' w w') {y:aK T.El} {v:Value} (aj:aB T (bs X bl ρ w) w ρ bl y v):aB T (bs X bl' ρ' w') w' ρ' bl' y v:=aj.later h.F h.L
theorem To.vs (h:To X bl bl' ρ ρ' w w') {y:List (aK T.El)} {v:List Value} (aj:bc T (bs X bl ρ w) w ρ bl y v):bc T (bs X bl' ρ' w') w' ρ' bl' y v:=bc.later h.F h.L y aj
theorem To.trans {p8:List (aI T.El)} {y8:List Value} {w'':World} (h:To X bl bl' ρ ρ' w w') (k:To X bl' p8 ρ' y8 w' w''):To X bl p8 ρ y8 w w'':=
 ⟨fun q a1=>⟨(k.F q (h.F q a1).1).1,((k.F q (h.F q a1).1).2).trans (h.F q a1).2⟩,h.L.trans k.L,Nat.le_trans h.sz k.sz,fun i B' h' hi bG q a1 bL=>by
  obtain ⟨uO,J,ao,aq,a0⟩:=k.mv i B' h' hi bG q a1 (Nat.lt_of_lt_of_le bL h.sz)
  exact h.mv i uO J ao aq q a0 bL⟩
theorem To.refl:To X bl bl ρ ρ w w:=⟨fun _ h=>⟨h,rfl⟩,.refl,Nat.le_refl _,fun _ B h hi bG _ ak _=>⟨B,h,hi,bG,ak⟩⟩
theorem Mem.D9 (hm:Mem T W aD X bl ρ w) {i:Nat} {B:aI T.El} (hi:bl[i]? =some B):∃ h,ρ[i]? =some h:=by
 have:=(List.getElem?_eq_some_iff.1 hi).1
 exact ⟨ρ[i]'(by rw [hm.len];exact this),List.getElem?_eq_getElem _⟩
theorem Mem.I8 (aj:bw [] w w'):To X bl bl ρ ρ w w':=⟨fun k ak=>⟨⟨ak.1,ak.2.1,Nat.lt_of_lt_of_le ak.2.2 aj.size⟩,aj.block k ak.2.2 (by simp)⟩,.refl,aj.size,fun _ B h hi bG _ ak _=>⟨B,h,hi,bG,ak⟩⟩
theorem Mem.e5 (hm:Mem T W aD X bl ρ w) (aj:bw [] w w'):Mem T W aD X bl ρ w':=
 ⟨hm.cr.trans aj (by simp),hm.len,hm.gZ,fun k ak=>⟨Nat.lt_of_lt_of_le (hm.lt k ak).1 aj.size,(hm.lt k ak).2⟩,hm.bA,fun i B h hi bG=>(hm.ok i B h hi bG).later (Mem.I8 aj).F .refl fun k ak=>aj.block k (hm.lt k ⟨i,B,h,hi,bG,ak⟩).1 (by simp)⟩
theorem Mem.yX (hm:Mem T W aD X bl ρ w) {i:Nat} {B B':aI T.El} {h h':Value} (hi:bl[i]? =some B) (bG:ρ[i]? =some h) (aj:bw (bD B h) w w')
 (ag:∀ k ∈ bD B' h',k ∈ bD B h\/(w.heap.size<=k/\k <w'.heap.size))
 (au:(¬ kZ h->h'=h)/\cd (some B)<=cd (some B')/\(cd (some B')=cd (some B)->h'=h/\hC T (some B')=hC T (some B)/\fF (some B)<=fF (some B')/\(fF (some B')=fF (some B)->oa (some B')=oa (some B)))) :
 To X bl (bl.set i B') ρ (ρ.set i h') w w':=by
 have l1:=(List.getElem?_eq_some_iff.1 hi).1
 have cT:=(List.getElem?_eq_some_iff.1 bG).1
 refine ⟨fun k ak=>⟨⟨ak.1,?_,Nat.lt_of_lt_of_le ak.2.2 aj.size⟩,aj.block k ak.2.2 fun af=>ak.2.1 ⟨i,B,h,hi,bG,af⟩⟩,⟨fun j u aJ=>?_⟩,aj.size,fun j C g aJ aA k ak bL=>?_⟩
 · rintro ⟨j,C,g,aJ,aA,cS⟩
   by_cases e:j=i
   · subst e
     rw [List.getElem?_set_self l1] at aJ
     rw [List.getElem?_set_self cT] at aA
     cases aJ;cases aA
     rcases ag k cS with e | e
     · exact ak.2.1 ⟨j,B,h,hi,bG,e⟩
     · have:=ak.2.2;omega
   · rw [List.getElem?_set_ne (Ne.symm e)] at aJ aA
     exact ak.2.1 ⟨j,C,g,aJ,aA,cS⟩
 · by_cases e:j=i
   · subst e
     rw [bG] at aJ
     cases aJ
     refine ⟨h',List.getElem?_set_self cT,?_⟩
     rw [List.getElem?_set_self l1,hi]
     exact au
   · refine ⟨u,by rw [List.getElem?_set_ne (Ne.symm e)];exact aJ,fun _=>rfl,?_⟩
     rw [List.getElem?_set_ne (Ne.symm e)]
     exact ⟨Nat.le_refl _,fun _=>⟨rfl,rfl,Nat.le_refl _,fun _=>rfl⟩⟩
 · by_cases e:j=i
   · subst e
     rw [List.getElem?_set_self l1] at aJ
     rw [List.getElem?_set_self cT] at aA
     cases aJ;cases aA
     rcases ag k ak with e | e
     · exact ⟨B,h,hi,bG,e⟩
     · omega
   · rw [List.getElem?_set_ne (Ne.symm e)] at aJ aA
     exact ⟨C,g,aJ,aA,ak⟩
theorem Mem.uy (hm:Mem T W aD X bl ρ w) {i:Nat} {B B':aI T.El} {h h':Value} (hi:bl[i]? =some B) (bG:ρ[i]? =some h) (aj:bw (bD B h) w w')
 (ag:∀ k ∈ bD B' h',k ∈ bD B h\/(w.heap.size<=k/\k <w'.heap.size)) (aL:To X bl (bl.set i B') ρ (ρ.set i h') w w')
 (bZ:hp T (bs X (bl.set i B') (ρ.set i h') w') w' (ρ.set i h') (bl.set i B') B' h'):Mem T W aD X (bl.set i B') (ρ.set i h') w':=by
 have l1:=(List.getElem?_eq_some_iff.1 hi).1
 have cT:=(List.getElem?_eq_some_iff.1 bG).1
 have key:∀ {j:Nat} {C:aI T.El} {g:Value},(bl.set i B')[j]? =some C->(ρ.set i h')[j]? =some g->(j=i/\C=B'/\g=h')\/(j≠i/\bl[j]? =some C/\ρ[j]? =some g):=fun {j C g} aJ aA=>by
  by_cases e:j=i
  · subst e
    rw [List.getElem?_set_self l1] at aJ
    rw [List.getElem?_set_self cT] at aA
    cases aJ;cases aA
    exact .inl ⟨rfl,rfl,rfl⟩
  · rw [List.getElem?_set_ne (Ne.symm e)] at aJ aA
    exact .inr ⟨e,aJ,aA⟩
 refine ⟨hm.cr.trans aj fun k ak=>(hm.lt k ⟨i,B,h,hi,bG,ak⟩).2,by simp [hm.len],hm.gZ,?_,?_,?_⟩
 · rintro k ⟨j,C,g,aJ,aA,ak⟩
   rcases key aJ aA with ⟨rfl,rfl,rfl⟩ | ⟨_,J,aa⟩
   · rcases ag k ak with e | e
     · have:=hm.lt k ⟨j,B,h,hi,bG,e⟩
       exact ⟨Nat.lt_of_lt_of_le this.1 aj.size,this.2⟩
     · exact ⟨e.2,.inr (Nat.le_trans hm.cr.size e.1)⟩
   · have:=hm.lt k ⟨j,C,g,J,aa,ak⟩
     exact ⟨Nat.lt_of_lt_of_le this.1 aj.size,this.2⟩
 · intro a b C D g u a3 aA fi hu cj k ak cS
   rcases key a3 aA with ⟨rfl,rfl,rfl⟩ | ⟨ao,J,aa⟩
   · rcases key fi hu with ⟨rfl,_⟩ | ⟨aq,bt,bu⟩
     · exact cj rfl
     · rcases ag k ak with e | e
       · exact hm.bA _ _ _ _ _ _ hi bG bt bu cj k e cS
       · have:=(hm.lt k ⟨b,D,u,bt,bu,cS⟩).1;omega
   · rcases key fi hu with ⟨rfl,rfl,rfl⟩ | ⟨aq,bt,bu⟩
     · rcases ag k cS with e | e
       · exact hm.bA _ _ _ _ _ _ J aa hi bG cj k ak e
       · have:=(hm.lt k ⟨a,C,g,J,aa,ak⟩).1;omega
     · exact hm.bA _ _ _ _ _ _ J aa bt bu cj k ak cS
 · intro j C g aJ aA
   rcases key aJ aA with ⟨rfl,rfl,rfl⟩ | ⟨ao,J,aa⟩
   · exact bZ
   · exact (hm.ok j C g J aa).later aL.F aL.L fun k ak=>aj.block k (hm.lt k ⟨j,C,g,J,aa,ak⟩).1 fun af=>hm.bA _ _ _ _ _ _ J aa hi bG ao k ak af
theorem Mem.ux (hm:Mem T W aD X bl ρ w) {B:aI T.El} {h:Value} (aj:bw [] w w') (ag:∀ k ∈ bD B h,w.heap.size<=k/\k <w'.heap.size):To X bl (bl++[B]) ρ (ρ++[h]) w w':=by
 refine ⟨fun k ak=>⟨⟨ak.1,?_,Nat.lt_of_lt_of_le ak.2.2 aj.size⟩,aj.block k ak.2.2 (by simp)⟩,⟨fun j u aJ=>?_⟩,aj.size,fun j C g aJ aA k ak bL=>?_⟩
 · rintro ⟨j,C,g,aJ,aA,cS⟩
   rcases Nat.lt_or_ge j bl.length with e | e
   · rw [List.getElem?_append_left e] at aJ
     rw [List.getElem?_append_left (by rw [hm.len];exact e)] at aA
     exact ak.2.1 ⟨j,C,g,aJ,aA,cS⟩
   · rw [List.getElem?_append_right e] at aJ
     rw [List.getElem?_append_right (by rw [hm.len];exact e),hm.len] at aA
     cases aO:j - bl.length with
     | zero=>
       rw [aO] at aJ aA
       simp only [List.getElem?_cons_zero,Option.some.injEq] at aJ aA
       subst aJ;subst aA
       have:=(ag k cS).1
       have:=ak.2.2
       omega
     | succ q=>rw [aO] at aJ;simp at aJ
 · have e:=(List.getElem?_eq_some_iff.1 aJ).1
   have e':j <bl.length:=by rw [<-hm.len];exact e
   refine ⟨u,by rw [List.getElem?_append_left e];exact aJ,fun _=>rfl,?_⟩
   rw [List.getElem?_append_left e']
   exact ⟨Nat.le_refl _,fun _=>⟨rfl,rfl,Nat.le_refl _,fun _=>rfl⟩⟩
 · rcases Nat.lt_or_ge j bl.length with e | e
   · rw [List.getElem?_append_left e] at aJ
     rw [List.getElem?_append_left (by rw [hm.len];exact e)] at aA
     exact ⟨C,g,aJ,aA,ak⟩
   · rw [List.getElem?_append_right e] at aJ
     rw [List.getElem?_append_right (by rw [hm.len];exact e),hm.len] at aA
     cases aO:j - bl.length with
     | zero=>
       rw [aO] at aJ aA
       simp only [List.getElem?_cons_zero,Option.some.injEq] at aJ aA
       subst aJ;subst aA
       have:=(ag k ak).1
       omega
     | succ q=>rw [aO] at aJ;simp at aJ
theorem Mem.push (hm:Mem T W aD X bl ρ w) {B:aI T.El} {h:Value} (aj:bw [] w w') (ag:∀ k ∈ bD B h,w.heap.size<=k/\k <w'.heap.size)
 (bZ:hp T (bs X (bl++[B]) (ρ++[h]) w') w' (ρ++[h]) (bl++[B]) B h):Mem T W aD X (bl++[B]) (ρ++[h]) w':=by
 have aL:=hm.ux aj ag (B:=B) (h:=h)
 have key:∀ {j:Nat} {C:aI T.El} {g:Value},(bl++[B])[j]? =some C->(ρ++[h])[j]? =some g->(j=bl.length/\C=B/\g=h)\/(j <bl.length/\bl[j]? =some C/\ρ[j]? =some g):=fun {j C g} aJ aA=>by
  rcases Nat.lt_or_ge j bl.length with e | e
  · rw [List.getElem?_append_left e] at aJ
    rw [List.getElem?_append_left (by rw [hm.len];exact e)] at aA
    exact .inr ⟨e,aJ,aA⟩
  · rw [List.getElem?_append_right e] at aJ
    rw [List.getElem?_append_right (by rw [hm.len];exact e),hm.len] at aA
    cases aO:j - bl.length with
    | zero=>
      rw [aO] at aJ aA
      simp only [List.getElem?_cons_zero,Option.some.injEq] at aJ aA
      exact .inl ⟨by omega,aJ.symm,aA.symm⟩
    | succ q=>rw [aO] at aJ;simp at aJ
 refine ⟨hm.cr.trans aj (by simp),by simp [hm.len],hm.gZ,?_,?_,?_⟩
 · rintro k ⟨j,C,g,aJ,aA,ak⟩
   rcases key aJ aA with ⟨rfl,rfl,rfl⟩ | ⟨_,J,aa⟩
   · exact ⟨(ag k ak).2,.inr (Nat.le_trans hm.cr.size (ag k ak).1)⟩
   · have:=hm.lt k ⟨j,C,g,J,aa,ak⟩
     exact ⟨Nat.lt_of_lt_of_le this.1 aj.size,this.2⟩
 · intro a b C D g u a3 aA fi hu cj k ak cS
   rcases key a3 aA with ⟨rfl,rfl,rfl⟩ | ⟨ao,J,aa⟩
   · rcases key fi hu with ⟨rfl,_⟩ | ⟨aq,bt,bu⟩
     · exact cj rfl
     · have:=(hm.lt k ⟨b,D,u,bt,bu,cS⟩).1
       have:=(ag k ak).1
       omega
   · rcases key fi hu with ⟨rfl,rfl,rfl⟩ | ⟨aq,bt,bu⟩
     · have:=(hm.lt k ⟨a,C,g,J,aa,ak⟩).1
       have:=(ag k cS).1
       omega
     · exact hm.bA _ _ _ _ _ _ J aa bt bu cj k ak cS
 · intro j C g aJ aA
   rcases key aJ aA with ⟨rfl,rfl,rfl⟩ | ⟨ao,J,aa⟩
   · exact bZ
   · exact (hm.ok j C g J aa).later aL.F aL.L fun k ak=>aj.block k (hm.lt k ⟨j,C,g,J,aa,ak⟩).1 (by simp)
end
def ep {α:Type}:List (Nat × α)->Nat->Option α
 | [],_=>none
 | p::r,t=>match Nat.beq p.1 t with
   | true=>some p.2
   | false=>ep r t
structure oq (T:b_) (F:Nat->Prop) (w:World) (ρ:List Value) (bl:List (aI T.El)) (n:cQ) (bd:List (Nat × aK T.El)) (a:Act):Prop where
 size:a.tmps.size=n.n
 defers:a.defers=n.ds
 get:∀ t y,ep bd t=some y->aB T F w ρ bl y (a.tmps.getD t undef)
section
variable {T:b_} {F F':Nat->Prop} {w w':World} {ρ ρ':List Value} {bl bl':List (aI T.El)} {n:cQ} {bd:List (Nat × aK T.El)} {a:Act}
theorem oq.later (aR:∀ k,F k->F' k/\w'.heap[k]? =w.heap[k]?) (au:lm T ρ ρ' bl bl') (h:oq T F w ρ bl n bd a):oq T F' w' ρ' bl' n bd a:=⟨h.size,h.defers,fun t y hy=>(h.get t y hy).later aR au⟩
theorem vj {a:Act} {d t:Nat} {v:Value} (aO:d <a.tmps.size):(a.put (some d) v).tmps.getD t undef=if d=t then v else a.tmps.getD t undef:=by
 simp only [Act.put,Array.getD_eq_getD_getElem?,Array.getElem?_setIfInBounds]
 by_cases e:d=t
 · subst e;simp [aO]
 · simp [e]
theorem oq.put {d:Nat} {y:aK T.El} {v:Value} (h:oq T F w ρ bl n bd a) (aO:Nat.blt d n.n=true) (aj:aB T F w ρ bl y v):oq T F w ρ bl n ((d,y)::bd) (a.put (some d) v):=by
 have bL:d <n.n:=Nat.le_of_ble_eq_true aO
 refine ⟨by simpa [Act.put] using h.size,h.defers,fun t z al=>?_⟩
 rw [vj (by rw [h.size];exact bL)]
 simp only [ep] at al
 cases ai:Nat.beq d t with
 | true=>
   rw [ai] at al
   simp only [Option.some.injEq] at al
   rw [if_pos (Nat.eq_of_beq_eq_true ai),<-al];exact aj
 | false=>
   rw [ai] at al
   rw [if_neg (fun e=>by subst e;simp at ai)]
   exact h.get t z al
def k9 {α:Type}:List (Nat × α)->Nat->List (Nat × α)
 | [],_=>[]
 | p::r,t=>match Nat.beq p.1 t with
   | true=>k9 r t
   | false=>p::k9 r t
theorem HG {α:Type} {d t:Nat} {y:α}:∀ {bd:List (Nat × α)},ep (k9 bd d) t=some y->t≠d/\ep bd t=some y
 | [],h=>by simp [k9,ep] at h
 | p::r,h=>by
   simp only [k9] at h
   cases ai:Nat.beq p.1 d with
   | true=>
     rw [ai] at h
     obtain ⟨J,aa⟩:=HG h
     refine ⟨J,?_⟩
     simp only [ep]
     cases hc:Nat.beq p.1 t with
     | true=>exact absurd ((Nat.eq_of_beq_eq_true hc).symm.trans (Nat.eq_of_beq_eq_true ai)) J
     | false=>exact aa
   | false=>
     rw [ai] at h
     simp only [ep] at h ⊢
     cases hc:Nat.beq p.1 t with
     | true=>
       rw [hc] at h
       refine ⟨fun e=>?_,h⟩
       rw [Nat.eq_of_beq_eq_true hc,e] at ai
       simp at ai
     | false=>rw [hc] at h;exact HG h
theorem oq.IL {d:Nat} {v:Value} (h:oq T F w ρ bl n bd a) (aO:Nat.blt d n.n=true):oq T F w ρ bl n (k9 bd d) (a.put (some d) v):=by
 have bL:d <n.n:=Nat.le_of_ble_eq_true aO
 refine ⟨by simpa [Act.put] using h.size,h.defers,fun t z al=>?_⟩
 obtain ⟨J,aa⟩:=HG al
 rw [vj (by rw [h.size];exact bL),if_neg (Ne.symm J)]
 exact h.get t z aa
end
end bK
namespace I
def dM {α β cA:Type} (o:Option (α ⊕ β)) (k:α->Option cA) (l:β->Option cA):Option cA:=match o with
 | none=>none
 | some (.inl a)=>k a
 | some (.inr b)=>l b
end I
namespace bK
open Go Go.RowKit ay I
inductive D (α:Type):Type 1
 | ok (a:α)
 | no
 | op {β:Type} (o:Option β) (k:β->D α)
 | mj (c:Bool) (x y:D α)
 | pF {β cA:Type} (o:Option (β ⊕ cA)) (k:β->D α) (l:cA->D α)
def D.bind {α β:Type}:D α->(α->D β)->D β
 | .ok a,f=>f a
 | .no,_=>.no
 | .op o k,f=>.op o fun b=>(k b).bind f
 | .mj c x y,f=>.mj c (x.bind f) (y.bind f)
 | .pF o k l,f=>.pF o (fun b=>(k b).bind f) (fun c=>(l c).bind f)
def D.run {α ρ:Type}:D α->(α->Option ρ)->Option ρ
 | .ok a,K=>K a
 | .no,_=>none
 | .op o k,K=>o.bind fun b=>(k b).run K
 | .mj c x y,K=>cond c (x.run K) (y.run K)
 | .pF o k l,K=>dM o (fun b=>(k b).run K) (fun c=>(l c).run K)
def D.out {α:Type}:D α->α->Prop
 | .ok b,a=>b=a
 | .no,_=>False
 | .op o k,a=>∃ b,o=some b/\(k b).out a
 | .mj c x y,a=>(c=true/\x.out a)\/(c=false/\y.out a)
 | .pF o k l,a=>(∃ b,o=some (.inl b)/\(k b).out a)\/(∃ c,o=some (.inr c)/\(l c).out a)
theorem D.uh {α ρ:Type} {r:ρ}:∀ {d:D α} {K:α->Option ρ},d.run K=some r-> ∃ a,d.out a/\K a=some r
 | .ok a,K,h=>⟨a,rfl,h⟩
 | .no,K,h=>by cases h
 | .op o k,K,h=>by
   obtain ⟨b,J,aa⟩:=fK h
   obtain ⟨a,az,bp⟩:=D.uh aa
   exact ⟨a,⟨b,J,az⟩,bp⟩
 | .mj c x y,K,h=>by
   cases c with
   | true=>obtain ⟨a,az,bp⟩:=D.uh (d:=x) h;exact ⟨a,.inl ⟨rfl,az⟩,bp⟩
   | false=>obtain ⟨a,az,bp⟩:=D.uh (d:=y) h;exact ⟨a,.inr ⟨rfl,az⟩,bp⟩
 | .pF o k l,K,h=>by
   cases o with
   | none=>cases h
   | some s=>
     cases s with
     | inl b=>obtain ⟨a,az,bp⟩:=D.uh (d:=k b) h;exact ⟨a,.inl ⟨b,rfl,az⟩,bp⟩
     | inr c=>obtain ⟨a,az,bp⟩:=D.uh (d:=l c) h;exact ⟨a,.inr ⟨c,rfl,az⟩,bp⟩
theorem D.jD {α β:Type}:∀ {d:D α} {f:α->D β} {b:β},(d.bind f).out b-> ∃ a,d.out a/\(f a).out b
 | .ok a,f,b,h=>⟨a,rfl,h⟩
 | .no,f,b,h=>h.elim
 | .op o k,f,b,h=>by
   obtain ⟨x,J,aa⟩:=h
   obtain ⟨a,az,bp⟩:=D.jD aa
   exact ⟨a,⟨x,J,az⟩,bp⟩
 | .mj c x y,f,b,h=>by
   rcases h with ⟨J,aa⟩ | ⟨J,aa⟩
   · obtain ⟨a,az,bp⟩:=D.jD aa;exact ⟨a,.inl ⟨J,az⟩,bp⟩
   · obtain ⟨a,az,bp⟩:=D.jD aa;exact ⟨a,.inr ⟨J,az⟩,bp⟩
 | .pF o k l,f,b,h=>by
   rcases h with ⟨x,J,aa⟩ | ⟨x,J,aa⟩
   · obtain ⟨a,az,bp⟩:=D.jD aa;exact ⟨a,.inl ⟨x,J,az⟩,bp⟩
   · obtain ⟨a,az,bp⟩:=D.jD aa;exact ⟨a,.inr ⟨x,J,az⟩,bp⟩
def D.of {α:Type}:Option α->D α
 | some a=>.ok a
 | none=>.no
theorem D.mT {α:Type} {o:Option α} {a:α} (h:(D.of o).out a):o=some a:=by
 cases o with
 | none=>exact h.elim
 | some b=>exact congrArg some h
structure Env where
 P:Program
 T:b_
 gm:List (Nat × aK T.El)
 fL:Bool
 cM:List Nat
 jl:Nat
 FV:List UInt8->List (T.El jl)
def lay (P:Program) (t:TypeId):Option (Bool × Nat):=match P.underlying t,P.info? t with
 | some (.struct _),some i=>some (true,i.size)
 | some (.array _ _),some i=>some (true,i.size)
 | some _,some i=>some (false,i.size)
 | _,_=>none
theorem run_sizeOf {P:Program} {t:TypeId} {i:TypeInfo} (h:P.info? t=some i) (w:World):(Go.sizeOf t).run P w= .ok i.size w:=by
 simp [Go.sizeOf,typeInfo,go_sem,h]
theorem D7 {P:Program} {t:TypeId} {b:Bool} {n:Nat} (h:lay P t=some (b,n)):(∀ w,(isAgg t).run P w= .ok b w)/\ ∀ w,(Go.sizeOf t).run P w= .ok n w:=by
 unfold lay at h
 split at h
 · rename_i J aa
   simp only [Option.some.injEq,Prod.mk.injEq] at h
   obtain ⟨rfl,rfl⟩:=h
   exact ⟨fun w=>by simp [isAgg,run_underlying J],run_sizeOf aa⟩
 · rename_i J aa
   simp only [Option.some.injEq,Prod.mk.injEq] at h
   obtain ⟨rfl,rfl⟩:=h
   exact ⟨fun w=>by simp [isAgg,run_underlying J],run_sizeOf aa⟩
 · rename_i d i VB alu J aa
   simp only [Option.some.injEq,Prod.mk.injEq] at h
   obtain ⟨rfl,rfl⟩:=h
   refine ⟨fun w=>?_,run_sizeOf aa⟩
   simp only [isAgg,Sem.run_bind,run_underlying J,Result.andThen_ok]
   cases d <;> first | rfl | (exact absurd J (by simpa using VB _)) | (exact absurd J (by simpa using alu _ _))
 · cases h
def iX:Option TypeDesc->Option kv
 | some (.int k)=>some (.i k)
 | some .bool=>some .b
 | some .string=>some .s
 | some (.slice _)=>some .cz
 | _=>none
theorem qL {P:Program} {t:TypeId} {k:kv} (h:iX (P.underlying t)=some k):k.ok P t:=by
 unfold iX at h
 split at h <;> simp only [Option.some.injEq,reduceCtorEq] at h <;> subst h
 · rename_i h;exact h
 · rename_i h;exact h
 · rename_i h;exact h
 · rename_i e h;exact ⟨e,h⟩
def Gw (P:Program) (s j:Nat):Option (Nat × Nat × Nat):=match P.underlying s with
 | some (.struct cM)=>match nth cM.toList j with
   | some f=>match P.info? f.type with
     | some i=>match Nat.beq i.size 0 with
       | true=>none
       | false=>some (f.offset,f.type,i.size)
     | none=>none
   | none=>none
 | _=>none
theorem UB {P:Program} {s j off t n:Nat} (h:Gw P s j=some (off,t,n)):∃ cM f,P.underlying s=some (.struct cM)/\cM[j]? =some f/\f.offset=off/\f.type=t/\(∀ w,(Go.sizeOf f.type).run P w= .ok n w)/\Nat.beq n 0 =false:=by
 unfold Gw at h
 split at h
 · rename_i cM J
   split at h
   · rename_i f aa
     split at h
     · rename_i i az
       split at h
       · cases h
       · rename_i bp
         simp only [Option.some.injEq,Prod.mk.injEq] at h
         obtain ⟨rfl,rfl,rfl⟩:=h
         rw [c3,Array.getElem?_toList] at aa
         exact ⟨cM,f,J,aa,rfl,rfl,run_sizeOf az,bp⟩
     · cases h
   · cases h
 · cases h
section
variable {El:Nat->Type}
def kB (cs:List (aK El)) (o:Nat):Bool × Nat->Option (aK El)
 | (false,_)=>nth cs o
 | (true,n)=>match Nat.ble (o+n) cs.length with
   | true=>some (.a ((cs.drop o).take n))
   | false=>none
end
section
variable {T:b_} {F:Nat->Prop} {w:World} {ρ:List Value} {bl:List (aI T.El)} {P:Program}
theorem CM {cs:List (aK T.El)} {o a q t:Nat} {gE:Bool × Nat} {y:aK T.El} {vs:List Value} (au:lay P t=some gE) (h:kB cs o gE=some y) (aN:bc T F w ρ bl cs vs) (hc:eW w ⟨a,q,none⟩ vs) :
 ∃ v us,aB T F w ρ bl y v/\eW w ⟨a,q+o,none⟩ us/\ ∀ (op:Oper) (ac:Act) (x:Operand) (w':World),op.op= .load t x->ac.eval x= .pointer (some ⟨a,q+o,none⟩)->eW w' ⟨a,q+o,none⟩ us->bj P op ac w' v w':=by
 obtain ⟨b,n⟩:=gE
 have vI:=D7 au
 cases b with
 | false=>
   simp only [kB] at h
   rw [c3] at h
   obtain ⟨v,J,aa⟩:=aN.at_ h
   refine ⟨v,[v],aa,fun j u aJ=>?_,fun op ac x w' aC af vx=>RF vI.1 aC af (by simpa using vx 0 v rfl)⟩
   cases j with
   | zero=>simp only [List.getElem?_cons_zero,Option.some.injEq] at aJ;subst aJ;simpa using hc o v J
   | succ j=>simp at aJ
 | true=>
   simp only [kB] at h
   split at h
   · rename_i ai
     simp only [Option.some.injEq] at h
     subst h
     have hle:=Nat.le_of_ble_eq_true ai
     have hlen:=aN.len
     refine ⟨.agg ⟨(vs.drop o).take n⟩,(vs.drop o).take n,?_,fun j u aJ=>?_,fun op ac x w' aC af vx=>ac5 vI.1 vI.2 (by simp;omega) aC af vx⟩
     · simp only [aB]
       exact ⟨_,rfl,bc.take n (bc.drop o aN)⟩
     · rw [List.getElem?_take] at aJ
       split at aJ
       · rw [List.getElem?_drop] at aJ
         have:=hc (o+j) u aJ
         simpa [Nat.add_assoc] using this
       · cases aJ
   · cases h
end
end bK
namespace bK
open Go Go.RowKit ay I
structure sB (T:b_):Prop where
 cs:∀ t d F w xs,(T.ty t).rd F w xs d->bc T F w [] [] ((T.e t).cs d) xs
 fY:∀ t a_ d,(T.e t).fY a_=some d-> ∀ F w ρ bl xs,bc T F w ρ bl a_ xs->(T.ty t).rd F w xs d
 key:∀ t K,(T.e t).key=some K-> ∀ F w xs k,(T.ty t).rd F w xs k->tZ (T.e t).agg xs= @jg.enc _ K.dec K.nN k
 one:∀ t,(T.e t).agg=false-> ∀ d,((T.e t).cs d).length= 1
def b_.val (T:b_) (t:Nat) (d:T.El t):aK T.El:=match (T.e t).agg with
 | true=>.a ((T.e t).cs d)
 | false=>((T.e t).cs d).headD (.p undef)
structure aZ (E:Env):Prop where
 tb:sB E.T
 call:∀ f ∈ E.cM,∀ args w,(callFunc f args).run E.P w= .ok (.enter f args) w
 aok:E.P.follows .mixedOrders=true
 Sm:∀ l,(E.FV l).length=l.length
 ady:∀ F w l xs,dF I_ F w xs l->dF (E.T.ty E.jl) F w xs (E.FV l)
 eq:∀ t f,(E.T.e t).eq=some f-> ∀ F w xs ys d e,(E.T.ty t).rd F w xs d->(E.T.ty t).rd F w ys e-> ∀ (o:Oper) (a:Act) (x y:Operand) (t':TypeId) (b:Bool),o.op= .binOp (cond b .eql .neq) t x y t'->a.eval x= .agg ⟨xs⟩->a.eval y= .agg ⟨ys⟩-> ∀ w',bj E.P o a w' (.bool (cond b (f d e) (!f d e))) w'
section
variable {T:b_} {F:Nat->Prop} {w:World} {ρ:List Value} {bl:List (aI T.El)}
theorem anS {w:World} {F:Nat->Prop} {l:List (aK T.El)} {vs:List Value} (h:bc T F w [] [] l vs):bc T F w ρ bl l vs:=bc.later (fun _ h=>⟨h,rfl⟩) ⟨fun i h hi=>by simp at hi⟩ l h
theorem sB.cells (fr:sB T) {t:Nat} {d:T.El t} {xs:List Value} (h:(T.ty t).rd F w xs d):bc T F w ρ bl ((T.e t).cs d) xs:=anS (fr.cs t d F w xs h)
theorem sB.val (fr:sB T) {t:Nat} {d:T.El t} {xs:List Value} (h:(T.ty t).rd F w xs d):aB T F w ρ bl (T.val t d) (tZ (T.e t).agg xs):=by
 have hc:=fr.cells (ρ:=ρ) (bl:=bl) h
 unfold b_.val
 cases a3:(T.e t).agg with
 | true=>simp only [aB,tZ];exact ⟨xs,rfl,hc⟩
 | false=>
   have J:=fr.one t a3 d
   cases hcs:(T.e t).cs d with
   | nil=>rw [hcs] at J;simp at J
   | cons y r=>
     rw [hcs] at hc
     simp only [bc] at hc
     obtain ⟨u,us,rfl,hu,_⟩:=hc
     exact hu
def Pf {El:Nat->Type}:aK El->Nat->Option (aK El)
 | .b i o,n=>some (.b i (o+n))
 | .x t d o,n=>some (.x t d (o+n))
 | .e i g k t j d o,n=>some (.e i g k t j d (o+n))
 | .w i g o,n=>some (.w i g (o+n))
 | _,_=>none
def Im {El:Nat->Type} (gs:Nat->Nat):aK El->Bool
 | .b _ _=>true
 | .x _ _ _=>true
 | .e i g _ _ _ _ _=>Nat.beq g (gs i)
 | .w i g _=>Nat.beq g (gs i)
 | _=>false
def ql {El:Nat->Type} (bl:List (aI El)) (i:Nat):Nat:=cd (nth bl i)
theorem xW {El:Nat->Type} (bl:List (aI El)) (i:Nat):ql bl i=cd bl[i]? :=by rw [ql,c3]
theorem asO {y fU:aK T.El} {n:Nat} {v:Value} (hi:Im (ql bl) y=true) (h:Pf y n=some fU) (aj:aB T F w ρ bl y v):∃ g o,v= .pointer (some ⟨g,o,none⟩)/\aB T F w ρ bl fU (.pointer (some ⟨g,o+n,none⟩)):=by
 cases y <;> simp only [Pf,Option.some.injEq,reduceCtorEq] at h <;> subst h
 · simp only [aB] at aj
   obtain ⟨g,J,aa⟩:=aj
   refine ⟨g,_,aa,?_⟩
   simp only [aB]
   exact ⟨g,J,rfl⟩
 · simp only [aB] at aj
   obtain ⟨a,q,cs,J,aa,az,bp⟩:=aj
   refine ⟨a,_,J,?_⟩
   simp only [aB]
   exact ⟨a,q,cs,by rw [Nat.add_assoc],aa,az,bp⟩
 · simp only [aB] at aj
   obtain ⟨_,u,J,aa,az⟩:=aj
   simp only [Im] at hi
   have hi:=Nat.eq_of_beq_eq_true hi
   rw [xW] at hi
   obtain ⟨⟨A,e8,c,bt,bu,cH,dp⟩,lJ,ti⟩:=az hi
   refine ⟨_,_,dp,?_⟩
   simp only [aB]
   exact ⟨trivial,u,J,aa,fun _=>⟨⟨A,e8,c,bt,bu,cH,by rw [Nat.add_assoc]⟩,lJ,ti⟩⟩
 · simp only [aB] at aj
   obtain ⟨_,u,J,aa,az⟩:=aj
   simp only [Im] at hi
   have hi:=Nat.eq_of_beq_eq_true hi
   rw [xW] at hi
   obtain ⟨A,e8,c,bt,bu,dp⟩:=az hi
   refine ⟨_,_,dp,?_⟩
   simp only [aB]
   exact ⟨trivial,u,J,aa,fun _=>⟨A,e8,c,bt,bu,rfl⟩⟩
def nm {El:Nat->Type} (bl:List (aI El)):aK El->aK El
 | .r i g=>match nth bl i with
   | some (.z t g' _ l)=>match Nat.beq g g' with
     | true=>.s t l
     | false=>.r i g
   | _=>.r i g
 | y=>y
end
section
variable {T:b_} {W w:World} {aD:List Nat} {X:Nat->Prop} {bl:List (aI T.El)} {ρ:List Value}
theorem H9 (hm:Mem T W aD X bl ρ w) {y:aK T.El} {v:Value} (aj:aB T (bs X bl ρ w) w ρ bl y v):aB T (bs X bl ρ w) w ρ bl (nm bl y) v:=by
 cases y with
 | r i g=>
   simp only [nm]
   split
   · rename_i t g' k l hi
     rw [c3] at hi
     split
     · rename_i ai
       have ai:=Nat.eq_of_beq_eq_true ai
       simp only [aB] at aj ⊢
       obtain ⟨_,h,J,aa,az⟩:=aj
       rw [hi] at az
       have:=az ai
       subst this
       exact hm.ok i _ _ hi J
     · exact aj
   · exact aj
 | _=>exact aj
def xN (E:Env) (bl:List (aI E.T.El)) (t:Nat):aK E.T.El->D (aK E.T.El)
 | .b i o=>match nth bl i,lay E.P t with
   | some (.c _ cs),some gE=>.of (kB cs o gE)
   | _,_=>.no
 | .x t' d o=>match lay E.P t with
   | some gE=>.of (kB ((E.T.e t').cs d) o gE)
   | none=>.no
 | .e i g k t' j d o=>match nth bl i,lay E.P t with
   | some (.r t2 bN bu l),some gE=>match Nat.beq g bN,Nat.beq k bu with
     | true,true=>.of (kB ((E.T.e t').cs d) o gE)
     | true,false=>.op (idx l j) fun d'=>.of (kB ((E.T.e t2).cs d') o gE)
     | _,_=>.no
   | _,_=>.no
 | .w i g o=>match nth bl i,lay E.P t with
   | some (.k _ _ bN cs),some gE=>match Nat.beq g bN with
     | true=>.of (kB cs o gE)
     | false=>.no
   | _,_=>.no
 | _=>.no
def Ob {El:Nat->Type}:aK El->Option Nat
 | .b i _=>some i
 | .e i _ _ _ _ _ _=>some i
 | .w i _ _=>some i
 | _=>none
def FE (X:Nat->Prop) (bl:List (aI T.El)) (ρ:List Value) (w:World) (k:Nat):Option Nat->Prop
 | none=>bs X bl ρ w k
 | some i=>∃ B h,bl[i]? =some B/\ρ[i]? =some h/\k ∈ bD B h
def FH (P:Program) (t:Nat) (dR:Addr) (us:List Value) (v:Value):Prop:=∀ (op:Oper) (ac:Act) (x:Operand) (w':World),op.op= .load t x->ac.eval x= .pointer (some dR)->eW w' dR us->bj P op ac w' v w'
theorem rr {w:World} {t sz n c:Nat} {A:Option Addr} {xs:List Value} (aS:0 <n) (h:rowIs w t sz (.slice A n c) n xs):∃ g,A=some ⟨g,0,none⟩/\dO A=g/\eW w ⟨g,0,none⟩ xs/\ ∀ m:Nat,ai (.slice A m c)= [g]:=by
 have hc:=h.cap
 have h:=h.own aS
 rcases h.2 with ⟨J,aY⟩ | ⟨g,cap,cur,J,_⟩
 · omega
 · simp only [Value.slice.injEq] at J
   obtain ⟨rfl,_,rfl⟩:=J
   refine ⟨g,rfl,rfl,fun j u aJ=>?_,fun m=>?_⟩
   · have hv:=h.cells (g:=g) rfl j u aJ
     rw [iK] at hv
     exact hv
   · cases c with
     | zero=>omega
     | succ c=>rfl
theorem abr {α:Type} {T:c8 α} {F:Nat->Prop} {w:World} {g:Nat} {l:List α} {xs:List Value} {j:Int} {d:α} (hc:eW w ⟨g,0,none⟩ xs) (aN:dF T F w xs l) (hi:idx l j=some d):∃ cs,T.rd F w cs d/\eW w ⟨g,j.toNat*T.size,none⟩ cs:=by
 obtain ⟨_,_,aa⟩:=jr hi
 obtain ⟨cs,az,bp⟩:=EL T aN aa
 refine ⟨cs,az,fun q u a1=>?_⟩
 have:=hc (j.toNat*T.size+q) u (bp q u a1)
 simpa using this
theorem ajh {E:Env} (fr:sB E.T) {W w:World} {aD:List Nat} {X:Nat->Prop} {bl:List (aI E.T.El)} {ρ:List Value} (hm:Mem E.T W aD X bl ρ w) {t:Nat} {p y:aK E.T.El} {aaQ:Value} (aP:aB E.T (bs X bl ρ w) w ρ bl p aaQ) (h:(xN E bl t p).out y) :
 ∃ dR us v,aaQ= .pointer (some dR)/\aB E.T (bs X bl ρ w) w ρ bl y v/\eW w dR us/\FH E.P t dR us v/\FE X bl ρ w dR.block (Ob p):=by
 unfold xN at h
 split at h
 · rename_i i o
   split at h
   · rename_i ty cs gE J aa
     rw [c3] at J
     have h:=D.mT h
     simp only [aB] at aP
     obtain ⟨g,aA,rfl⟩:=aP
     obtain ⟨g',vs,ao,aq,a0⟩:=hm.ok i _ _ J aA
     simp only [Value.pointer.injEq,Option.some.injEq,Addr.mk.injEq,and_true] at ao
     subst ao
     have hc:eW w ⟨g,0,none⟩ vs:=fun j u aJ=>by
      have ai:(ba.dD g ty vs).ok w:=aq
      simpa using sH ai aJ
     obtain ⟨v,us,bt,bu,cH⟩:=CM aa h a0 hc
     refine ⟨⟨g,o,none⟩,us,v,rfl,bt,by simpa using bu,fun op ac x w' aC af vx=>cH op ac x w' aC (by simpa using af) (by simpa using vx),_,_,J,aA,by simp [bD,ai]⟩
   · exact h.elim
 · rename_i t' d o
   split at h
   · rename_i gE aa
     have h:=D.mT h
     simp only [aB] at aP
     obtain ⟨a,q,cs,rfl,az,bp,dj⟩:=aP
     obtain ⟨v,us,bt,bu,cH⟩:=CM aa h (fr.cells bp) dj
     exact ⟨_,us,v,rfl,bt,bu,cH,az⟩
   · exact h.elim
 · rename_i i g k t' j d o
   split at h
   · rename_i t2 bN bu l gE J aa
     rw [c3] at J
     simp only [aB] at aP
     obtain ⟨_,u,hu,hle,aj⟩:=aP
     rw [J] at aj
     obtain ⟨A,c,xs,ao,aq,a0⟩:=hm.ok i _ _ J hu
     subst ao
     split at h
     · rename_i aA ak
       have h:=D.mT h
       obtain ⟨⟨db,e8,bO,bx,b6,b',gQ⟩,as4,Ph⟩:=aj (Nat.eq_of_beq_eq_true aA)
       obtain ⟨l',cN,ec⟩:=Ph (Nat.eq_of_beq_eq_true ak)
       simp only [oa,Option.some.injEq,Sigma.mk.injEq] at cN
       obtain ⟨fE,cN⟩:=cN
       subst fE
       have cN:=eq_of_heq cN
       subst cN
       simp only [Value.slice.injEq] at bx
       obtain ⟨rfl,rfl,rfl⟩:=bx
       obtain ⟨dH,rfl,qt,hc,iS⟩:=rr (by have:=(jr ec).2.1;omega) aq
       obtain ⟨cs,ed,gO⟩:=abr hc a0 ec
       obtain ⟨v,us,bt,D1,cH⟩:=CM aa h (fr.cells ed) gO
       refine ⟨_,us,v,gQ,bt,?_,?_,_,_,J,hu,by simp [bD,iS,qt,dO]⟩
       · simpa [hC,dO] using D1
       · simpa [hC,dO,FH] using cH
     · rename_i aA ak
       obtain ⟨d',ec,h⟩:=h
       have h:=D.mT h
       obtain ⟨⟨db,e8,bO,bx,b6,b',gQ⟩,_,_⟩:=aj (Nat.eq_of_beq_eq_true aA)
       simp only [Value.slice.injEq] at bx
       obtain ⟨rfl,rfl,rfl⟩:=bx
       obtain ⟨dH,rfl,qt,hc,iS⟩:=rr (by have:=(jr ec).2.1;omega) aq
       obtain ⟨cs,ed,gO⟩:=abr hc a0 ec
       obtain ⟨v,us,bt,D1,cH⟩:=CM aa h (fr.cells ed) gO
       refine ⟨_,us,v,gQ,bt,?_,?_,_,_,J,hu,by simp [bD,iS,qt,dO]⟩
       · simpa [hC,dO] using D1
       · simpa [hC,dO,FH] using cH
     · exact h.elim
   · exact h.elim
 · rename_i i g o
   split at h
   · rename_i t2 sz bN cs gE J aa
     rw [c3] at J
     split at h
     · rename_i aA
       have h:=D.mT h
       simp only [aB] at aP
       obtain ⟨_,u,hu,hle,aj⟩:=aP
       rw [J] at aj
       obtain ⟨A,n,c,xs,ao,aq,a0⟩:=hm.ok i _ _ J hu
       subst ao
       obtain ⟨db,e8,bO,bx,b6,gQ⟩:=aj (Nat.eq_of_beq_eq_true aA)
       simp only [Value.slice.injEq] at bx
       obtain ⟨rfl,rfl,rfl⟩:=bx
       obtain ⟨dH,rfl,qt,hc,iS⟩:=rr b6 aq
       obtain ⟨v,us,bt,D1,cH⟩:=CM aa h a0 hc
       refine ⟨_,us,v,gQ,bt,?_,?_,_,_,J,hu,by simp [bD,iS,qt,dO]⟩
       · simpa [dO] using D1
       · simpa [dO,FH] using cH
     · exact h.elim
   · exact h.elim
 · exact h.elim
end
end bK
namespace bK
open Go Go.RowKit ay I
def cellsOf {El:Nat->Type}:aK El->List (aK El)
 | .a l=>l
 | .p (.agg ⟨vs⟩)=>vs.map .p
 | y=>[y]
def e0 {α:Type}:List α->Nat->List α->List α
 | l,0,cs=>cs++l.drop cs.length
 | [],_+ 1,_=>[]
 | u::l,n+ 1,cs=>u::e0 l n cs
theorem q2 {α:Type}:∀ (l:List α) (n:Nat) (cs:List α),n+cs.length<=l.length->e0 l n cs=l.take n++cs++l.drop (n+cs.length)
 | l,0,cs,_=>by simp [e0]
 | [],n+ 1,cs,h=>by simp at h
 | u::l,n+ 1,cs,h=>by
   have:=q2 l n cs (by simp at h;omega)
   simp only [e0,this,List.take_succ_cons,List.cons_append]
   have e:n+ 1 +cs.length=(n+cs.length)+ 1 :=by omega
   rw [e,List.drop_succ_cons]
theorem N_ {α:Type} {l:List α} {n:Nat} {cs:List α} (h:n+cs.length<=l.length):(e0 l n cs).length=l.length:=by
 rw [q2 l n cs h];simp;omega
theorem UD (off:Nat):∀ (cs:List Value) (k:Nat) (l:Array Value),off+k+cs.length<=l.size->((cs.zipIdx k).foldl (fun (a:Array Value) (x:Value × Nat)=>a.setIfInBounds (off+x.2) x.1) l).toList=e0 l.toList (off+k) cs
 | [],k,l,h=>by
   rw [q2 _ _ _ (by simpa using h)]
   simp
 | c::r,k,l,h=>by
   simp only [List.zipIdx_cons,List.foldl_cons]
   have h':off+(k+ 1)+r.length<=(l.setIfInBounds (off+k) c).size:=by simp at h ⊢;omega
   rw [UD off r (k+ 1) _ h',q2 _ _ _ (by simpa using h'),q2 _ _ _ (by simpa using h)]
   have ak:off+k <l.toList.length:=by simp at h ⊢;omega
   simp only [Array.toList_setIfInBounds,List.length_cons]
   apply List.ext_getElem?
   intro i
   simp only [List.getElem?_append,List.length_take,List.length_set,List.getElem?_take,List.getElem?_set,List.getElem?_drop,List.length_append,List.length_cons]
   have ao:min (off+(k+ 1)) l.toList.length=off+k+ 1 :=by simp at h ak ⊢;omega
   have aq:min (off+k) l.toList.length=off+k:=by omega
   rw [ao,aq]
   by_cases cJ:i <off+k
   · simp [cJ,show i <off+k+ 1 by omega,show i <off+k+ 1 +r.length by omega,show i <off+k+(r.length+ 1) by omega,show i <off+(k+ 1) by omega,show ¬ off+k=i by omega]
   · by_cases cm:i=off+k
     · subst cm
       simp only [show off+k <off+k+ 1 by omega,show off+k <off+k+ 1 +r.length by omega,show off+k <off+k+(r.length+ 1) by omega,show off+k <off+(k+ 1) by omega,if_true,ak,Nat.lt_irrefl,if_false,Nat.sub_self,List.getElem?_cons_zero]
     · by_cases dS:i <off+k+ 1 +r.length
       · simp only [show ¬ i <off+k+ 1 by omega,dS,show i <off+k+(r.length+ 1) by omega,cJ,if_false,if_true]
         have:i - (off+k)=(i - (off+k+ 1))+ 1 :=by omega
         rw [this,List.getElem?_cons_succ]
       · simp only [show ¬ i <off+k+ 1 by omega,dS,show ¬ i <off+k+(r.length+ 1) by omega,if_false,show ¬ (off+k=off+(k+ 1)+r.length+(i - (off+k+ 1 +r.length))) by omega]
         congr 1
         omega
def qj {El:Nat->Type} (pl:Nat->Option (Nat × Nat)):List (aK El)->List (Nat × aK El)->Option (List (aK El))
 | cs,[]=>some cs
 | cs,(i,y)::r=>match pl i with
   | some (off,size)=>match Nat.beq (cellsOf y).length size && Nat.ble (off+(cellsOf y).length) cs.length with
     | true=>qj pl (e0 cs off (cellsOf y)) r
     | false=>none
   | none=>none
section
variable {T:b_} {F:Nat->Prop} {w:World} {ρ:List Value} {bl:List (aI T.El)}
theorem n':∀ (vs:List Value),bc T F w ρ bl (vs.map .p) vs
 | []=>by simp [bc]
 | v::r=>by simp only [List.map_cons,bc];exact ⟨v,r,rfl,rfl,n' r⟩
theorem kh {z:aK T.El} {u:Value} (al:aB T F w ρ bl z u):bc T F w ρ bl [z] [u]:=by
 simp only [bc]
 exact ⟨u,[],rfl,al,rfl⟩
theorem F6 {v:Value} (h:kZ v):v.cells.toList= [v]:=by cases v <;> simp [kZ] at h;rfl
theorem F5 {v:Value} (h:tg v):v.cells.toList= [v]:=by cases v <;> simp [tg] at h;rfl
theorem lq {y:aK T.El} {v:Value} (h:aB T F w ρ bl y v):bc T F w ρ bl (cellsOf y) v.cells.toList:=by
 cases y with
 | a l=>simp only [aB] at h;obtain ⟨vs,rfl,h⟩:=h;exact h
 | p u=>
   simp only [aB] at h
   subst h
   cases v with
   | agg cs=>obtain ⟨vs⟩:=cs;exact n' vs
   | _=>exact kh (by simp [aB])
 | b i o=>have h':=h;simp only [aB] at h';obtain ⟨g,_,rfl⟩:=h';exact kh h
 | x t d o=>have h':=h;simp only [aB] at h';obtain ⟨a,q,cs,rfl,_⟩:=h';exact kh h
 | s t l=>have h':=h;simp only [aB] at h';obtain ⟨A,c,e⟩:=jH _ h';subst e;exact kh h
 | q t l=>have h':=h;simp only [aB] at h';obtain ⟨_,A,rfl⟩:=h';exact kh h
 | r i g=>have h':=h;simp only [aB] at h';rw [F6 h'.1];exact kh h
 | v i g lo hi=>have h':=h;simp only [aB] at h';rw [F6 h'.1];exact kh h
 | e i g k t j d o=>have h':=h;simp only [aB] at h';rw [F5 h'.1];exact kh h
 | w i g o=>have h':=h;simp only [aB] at h';rw [F5 h'.1];exact kh h
 | m i=>have h':=h;simp only [aB] at h';obtain ⟨g,_,rfl⟩:=h';exact kh h
 | n _ _ _=>have h':=h;simp only [aB] at h';obtain ⟨g,rfl,_⟩:=h';exact kh h
 | f fn cs=>have h':=h;simp only [aB] at h';obtain ⟨g,rfl,_⟩:=h';exact kh h
 | h fn us=>have h':=h;simp only [aB] at h';obtain ⟨g,rfl,_⟩:=h';exact kh h
 | u l=>have h':=h;simp only [aB] at h';obtain ⟨g,rfl,_⟩:=h';exact kh h
 | i t z=>have h':=h;simp only [aB] at h';obtain ⟨g,rfl,_⟩:=h';exact kh h
theorem bc.lay {l cs:List (aK T.El)} {vs us:List Value} {n:Nat} (h:bc T F w ρ bl l vs) (h':bc T F w ρ bl cs us) (hle:n+cs.length<=l.length):bc T F w ρ bl (e0 l n cs) (e0 vs n us):=by
 have ao:=h.len
 have aq:=h'.len
 rw [q2 _ _ _ hle,q2 _ _ _ (by omega),aq]
 exact bc.cq (bc.cq (bc.take n h) h') (bc.drop _ h)
def nk (T:b_) (F:Nat->Prop) (w:World) (ρ:List Value) (bl:List (aI T.El)):List (Nat × aK T.El)->List (Nat × Value)->Prop
 | [],vs=>vs= []
 | (i,y)::r,vs=>∃ v ws,vs=(i,v)::ws/\aB T F w ρ bl y v/\nk T F w ρ bl r ws
theorem Lk {pl:Nat->Option (Nat × Nat)}:∀ {ps:List (Nat × aK T.El)} {vs:List (Nat × Value)} {cs out:List (aK T.El)} {us:List Value},bc T F w ρ bl cs us->nk T F w ρ bl ps vs->qj pl cs ps=some out-> ∃ os,Instr.fill pl ⟨us⟩ vs=some ⟨os⟩/\bc T F w ρ bl out os
 | [],vs,cs,out,us,h,aP,he=>by
   simp only [nk] at aP
   subst aP
   simp only [qj,Option.some.injEq] at he
   subst he
   exact ⟨us,rfl,h⟩
 | (i,y)::r,vs,cs,out,us,h,aP,he=>by
   simp only [nk] at aP
   obtain ⟨v,ws,rfl,hy,aN⟩:=aP
   simp only [qj] at he
   split at he
   · rename_i off size Hf
     split at he
     · rename_i ai
       simp only [Bool.and_eq_true] at ai
       have ao:=Nat.eq_of_beq_eq_true ai.1
       have aq:=Nat.le_of_ble_eq_true ai.2
       have hc:=lq hy
       have l1:=hc.len
       have cT:=h.len
       have ig:v.cells.size=(cellsOf y).length:=by rw [<-l1];simp
       obtain ⟨os,J,aa⟩:=Lk (h.lay hc aq) aN he
       refine ⟨os,?_,aa⟩
       simp only [Instr.fill,Hf]
       rw [if_neg (by simp only [Bool.or_eq_true,decide_eq_true_eq,bne_iff_ne,not_or];simp only [List.size_toArray];omega)]
       have al:v.cells.zipIdx.toList=v.cells.toList.zipIdx:=by simp
       rw [<-Array.foldl_toList,al]
       have:=UD off v.cells.toList 0 ⟨us⟩ (by simp;omega)
       simp only [Nat.add_zero] at this
       rw [<-J]
       congr 1
       rw [<-Array.toList_inj]
       exact this
     · cases he
   · cases he
end
def EA (P:Program):List Go.Field->Option (List (Nat × Nat))
 | []=>some []
 | f::r=>match P.info? f.type,EA P r with
   | some i,some l=>some ((f.offset,i.size)::l)
   | _,_=>none
theorem aaH {P:Program} {w:World}:∀ {cM:List Go.Field} {l:List (Nat × Nat)},EA P cM=some l->(cM.mapM fun (f:Go.Field)=>(do pure (f.offset,<-Go.sizeOf f.type):Sem (Nat × Nat))).run P w= .ok l w
 | [],l,h=>by simp only [EA,Option.some.injEq] at h;subst h;rfl
 | f::r,l,h=>by
   simp only [EA] at h
   split at h
   · rename_i i l' J aa
     simp only [Option.some.injEq] at h
     subst h
     rw [List.mapM_cons]
     simp only [Sem.run_bind,run_sizeOf J,aaH aa,Result.andThen_ok,Sem.run_pure]
   · cases h
def w8 (P:Program) (t:TypeId):Option (List Value):=match P.info? t with
 | some i=>match i.zero with
   | some z=>some z.cells.toList
   | none=>none
 | none=>none
theorem Fq {P:Program} {t:TypeId} {l:List Value} (h:w8 P t=some l):∃ z,(∀ w,(zeroValue t).run P w= .ok z w)/\z.cells=⟨l⟩:=by
 unfold w8 at h
 split at h
 · rename_i i J
   split at h
   · rename_i z aa
     simp only [Option.some.injEq] at h
     subst h
     refine ⟨z,fun w=>?_,by simp⟩
     simp only [zeroValue,typeInfo,Sem.run_bind]
     simp [go_sem,J,aa]
   · cases h
 · cases h
def KZ (E:Env) (t:Nat) (ps:List (Nat × aK E.T.El)):D (aK E.T.El):=match E.P.underlying t,w8 E.P t with
 | some (.struct cM),some z=>match EA E.P cM.toList with
   | some pl=>match qj (fun i=>nth pl i) (z.map .p) ps with
     | some cs=>.ok (.a cs)
     | none=>.no
   | none=>.no
 | _,_=>.no
section
variable {E:Env} {F:Nat->Prop} {w:World} {ρ:List Value} {bl:List (aI E.T.El)}
theorem ai8 {t:Nat} {ps:List (Nat × aK E.T.El)} {vs:List (Nat × Value)} {y:aK E.T.El} (aP:nk E.T F w ρ bl ps vs) (h:(KZ E t ps).out y) :
 ∃ v,aB E.T F w ρ bl y v/\ ∀ (o:Oper) (a:Act) (xs:List (Nat × Operand)) (w':World),o.op= .build t xs.toArray->xs.map (fun p=>(p.1,a.eval p.2))=vs->bj E.P o a w' v w':=by
 unfold KZ at h
 split at h
 · rename_i cM z J aa
   split at h
   · rename_i pl az
     split at h
     · rename_i cs bp
       have h:aK.a cs=y:=h
       subst h
       obtain ⟨et,al,NA⟩:=Fq aa
       obtain ⟨os,dj,gn⟩:=Lk (n' z) aP bp
       refine ⟨.agg ⟨os⟩,by simp only [aB];exact ⟨os,rfl,gn⟩,fun o a xs w' aC af=>?_⟩
       have akZ:(fun i=>nth pl i)=(fun i=>(⟨pl⟩:Array (Nat × Nat))[i]?):=by funext i;rw [c3];simp
       have Hf:(cM.mapM fun (f:Go.Field)=>(do pure (f.offset,<-Go.sizeOf f.type):Sem (Nat × Nat))).run E.P w'= .ok ⟨pl⟩ w':=by
        have g_:=aaH (w:=w') az
        have e:cM.mapM (fun (f:Go.Field)=>(do pure (f.offset,<-Go.sizeOf f.type):Sem (Nat × Nat)))=List.toArray <$> cM.toList.mapM (fun (f:Go.Field)=>(do pure (f.offset,<-Go.sizeOf f.type):Sem (Nat × Nat))):=by
         rw [<-List.mapM_toArray]
        rw [e,map_eq_pure_bind,Sem.run_bind,g_]
        rfl
       rw [akZ] at dj
       simp only [bj,execOp,aC,Instr.build,Sem.run_bind,al,Result.andThen_ok,run_underlying J,Hf,List.map_toArray,af,NA,dj]
       rfl
     · exact h.elim
   · exact h.elim
 · exact h.elim
end
end bK
namespace ay
open Go Go.RowKit I
section
variable {P:Program} {ops:Array Oper} {Q:Exit->Act->World->Prop} {a:Act} {w:World} {rest:List Oper} {o:Oper} {n:cQ} {d:Nat} {l:List (Nat × Value)}
 {W:World} {aD X:List Nat} {E:List ba} {D:List bF}
def ba.nil:ba:=⟨[],fun _=>True,fun _ _ _ _=>trivial⟩
theorem bz.Gq {x:ba} {w':World} (hm:bz W aD X w E D) (i:Nat) (hi:E[i]? =some x) (aj:bw [] w w'):x.ok w':=
 x.law w w' (fun k ak=>aj.block k (hm.lt k (List.mem_flatMap.2 ⟨x,List.mem_of_getElem? hi,ak⟩)).1 (by simp)) (hm.e i hi)
theorem ayv {t:TypeId} {x:Operand} {lo hi:Option Operand} {p r:List UInt8} {i j:Int} (aL:P.underlying t=some .string) (aC:o.op= .slice t x lo hi none) (af:a.eval x=cv p)
 (lF:(lo=none/\i= 0)\/ ∃ z,lo=some z/\a.eval z= .int .i64 i) (iD:(hi=none/\j=p.length)\/ ∃ z,hi=some z/\a.eval z= .int .i64 j) (aN:cut p i j=some r):bj P o a w (cv r) w:=by
 obtain ⟨⟨J,aa,az⟩,rfl⟩:=KF aN
 have ej:(⟨p.toArray⟩:ByteArray).size=p.length:=by simp [ByteArray.size]
 have cg:∀ code,(Instr.sliceBound (.int .i64 j) (⟨p.toArray⟩:ByteArray).size code).run P w= .ok j.toNat w:=fun code=>ug rfl (by rw [ej];omega)
 rw [ej] at cg
 have eH:∀ code,(Instr.sliceBound (.int .i64 i) j.toNat code).run P w= .ok i.toNat w:=fun code=>ug rfl (by omega)
 have h9:∀ code,(Instr.sliceBound (.int .i64 i) (⟨p.toArray⟩:ByteArray).size code).run P w= .ok i.toNat w:=fun code=>ug rfl (by rw [ej];omega)
 rw [ej] at h9
 have Hl:(⟨p.toArray⟩:ByteArray).extract i.toNat j.toNat=⟨((p.take j.toNat).drop i.toNat).toArray⟩:=by
  apply ByteArray.ext
  simp [ByteArray.data_extract,List.drop_take]
 have key:∀ Ed cW:Option Value,((Ed=none/\i= 0)\/Ed=some (.int .i64 i))->((cW=none/\j=p.length)\/cW=some (.int .i64 j)) ->
  (Instr.slice t (.string ⟨p.toArray⟩) Ed cW none).run P w= .ok (cv ((p.take j.toNat).drop i.toNat)) w:=by
  intro Ed cW au bG
  have ai:∃ m,(Instr.sliceBounds false (⟨p.toArray⟩:ByteArray).size (⟨p.toArray⟩:ByteArray).size Ed cW none).run P w= .ok (i.toNat,j.toNat,m) w:=by
   rcases au with ⟨rfl,rfl⟩ | rfl <;> rcases bG with ⟨rfl,aJ⟩ | rfl
   · exact ⟨_,by simp [Instr.sliceBounds,aJ,ej];rfl⟩
   · exact ⟨_,by simp [Instr.sliceBounds,ej,cg];rfl⟩
   · exact ⟨_,by simp [Instr.sliceBounds,h9,aJ,ej];rfl⟩
   · exact ⟨_,by simp [Instr.sliceBounds,ej,cg,eH];rfl⟩
  obtain ⟨m,ai⟩:=ai
  simp only [Instr.slice,Sem.run_bind,run_underlying aL,Result.andThen_ok,Option.isSome_none,Bool.false_eq_true,if_false,ai,Sem.run_pure,Hl,cv]
 have s7:=key (lo.map a.eval) (hi.map a.eval) (lF.imp (fun h=>⟨by rw [h.1];rfl,h.2⟩) (fun ⟨z,bx,b6⟩=>by rw [bx,Option.map_some,b6])) (iD.imp (fun h=>⟨by rw [h.1];rfl,h.2⟩) (fun ⟨z,bx,b6⟩=>by rw [bx,Option.map_some,b6]))
 simp only [bj,execOp,aC,af,cv,Instr.sliceAt,Sem.run_bind,run_underlying aL,Result.andThen_ok,Option.map_none,s7]
 rfl
theorem ayB {t:TypeId} {x:Operand} {v:Value} (hc:P.concrete t=true) (aC:o.op= .makeInterface t x) (af:a.eval x=v):bj P o a w (.iface t v) w:=by
 simp only [bj,execOp,aC,af]
 simp [go_sem,run_makeInterface _ _ _ hc]
end
end ay
namespace bK
open Go Go.RowKit ay I
abbrev iI (P:Program) (o:Oper) (a:Act) (v:Value):Prop:=∀ w,bj P o a w v w
section
variable {E:Env} {W w:World} {aD:List Nat} {X:Nat->Prop} {bl:List (aI E.T.El)} {ρ:List Value}
def O' (E:Env) (x y:Operand) (b:Bool):aK E.T.El->aK E.T.El->D (aK E.T.El)
 | .p u,.p v=>match Ij x y b u v with
   | some r=>.ok (.p r)
   | none=>.mj b (.ok (.p u)) (.ok (.p v))
 | u,v=>.mj b (.ok u) (.ok v)
theorem asI {F:Nat->Prop} {a:Act} {x y:Operand} {b:Bool} {u v z:aK E.T.El} (h:(O' E x y b u v).out z) (af:b=true->aB E.T F w ρ bl u (a.eval x)) (hy:b=false->aB E.T F w ρ bl v (a.eval y)) :
 ∃ r,(if b then a.eval x else a.eval y)=r/\aB E.T F w ρ bl z r:=by
 have key:(D.mj b (.ok u) (.ok v)).out z-> ∃ r,(if b then a.eval x else a.eval y)=r/\aB E.T F w ρ bl z r:=fun h=>by
  rcases h with ⟨ai,h⟩ | ⟨ai,h⟩
  · have h:u=z:=h
    subst h;subst ai
    exact ⟨_,rfl,by simpa using af rfl⟩
  · have h:v=z:=h
    subst h;subst ai
    exact ⟨_,rfl,by simpa using hy rfl⟩
 unfold O' at h
 split at h
 · rename_i u v
   split at h
   · rename_i r aN
     have h:aK.p r=z:=h
     subst h
     refine ⟨r,aaE (a:=a) aN (fun ai=>?_) (fun ai=>?_),by simp [aB]⟩
     · simpa [aB] using af ai
     · simpa [aB] using hy ai
   · exact key h
 · exact key h
theorem ayO {P:Program} {o:Oper} {a:Act} {c x y:Operand} {b:Bool} {r:Value} (aC:o.op= .pick c x y) (hc:a.eval c= .bool b) (h:(if b then a.eval x else a.eval y)=r):bj P o a w r w:=by
 cases b with
 | true=>exact JQ aC hc (by simpa using h)
 | false=>exact JP aC hc (by simpa using h)
def amu (P:Program) (t:TypeId):Bool:=match P.underlying t with
 | some (.struct _)=>true
 | _=>false
def iV {El:Nat->Type}:aK El->Bool
 | .a _=>true
 | .p (.agg _)=>true
 | _=>false
def Gf (E:Env) (t:Nat) (b:Bool) (u v:aK E.T.El):D (aK E.T.El):=match iV u && iV v with
 | true=>match (E.T.e t).eq,(E.T.e t).fY (cellsOf u),(E.T.e t).fY (cellsOf v) with
   | some f,some d,some e=>.ok (.p (.bool (cond b (f d e) (!f d e))))
   | _,_,_=>.no
 | false=>.no
def V8:Value->Bool
 | .pointer none=>true
 | _=>false
def Hu {El:Nat->Type}:aK El->Bool
 | .b _ _=>true
 | .x _ _ _=>true
 | .e _ _ _ _ _ _ _=>true
 | .w _ _ _=>true
 | _=>false
def Pd (P:Program) (t:TypeId):Bool:=match P.underlying t with
 | some (.pointer _)=>true
 | _=>false
def wC (op:BinOp) (b:Bool):Option Bool:=match op with
 | .eql=>some b
 | .neq=>some (!b)
 | _=>none
def S9 (op:BinOp) (m n:Int):Option Value:=match op with
 | .quo=>some (.int .i64 (aX (m.tdiv n)))
 | .rem=>some (.int .i64 (m.tmod n))
 | _=>none
def KY (E:Env) (t:Nat) (op:BinOp) (fO:Bool) (u v:aK E.T.El):D (aK E.T.El):=match amu E.P t,op with
 | true,.eql=>Gf E t true u v
 | true,.neq=>Gf E t false u v
 | _,_=>match u,v with
   | .p x,.p y=>match bin (iX (E.P.underlying t)) fO op x y with
     | some r=>.ok (.p r)
     | none=>match x,y with
       | .int .i64 m,.int .i64 n=>match S9 op m n with
         | some r=>.op (Em (!decide (n= 0))) fun _=>.ok (.p r)
         | none=>.no
       | .int .u64 m,.int _ (.ofNat n)=>match op,Nat.ble n 64 with
         | .shr,true=>.ok (.p (.int .u64 (ru m n)))
         | _,_=>.no
       | _,_=>.no
   | u,.p y=>match Pd E.P t && Hu u && V8 y,wC op false with
     | true,some b=>.ok (.p (.bool b))
     | _,_=>.no
   | _,_=>.no
theorem ayP {P:Program} {o:Oper} {a:Act} {t t':TypeId} {x y:Operand} {p:Addr} {op:BinOp} {b:Bool} (aL:Pd P t=true) (ai:wC op false=some b) (aC:o.op= .binOp op t x y t') (af:a.eval x= .pointer (some p)) (hy:a.eval y= .pointer none):bj P o a w (.bool b) w:=by
 have hu:∃ e,P.underlying t=some (.pointer e):=by
  unfold Pd at aL
  split at aL
  · rename_i e h;exact ⟨e,h⟩
  · cases aL
 obtain ⟨e,hu⟩:=hu
 have h:∀ d:Nat,(Op.equalIn (d+ 1) t (.pointer (some p)) (.pointer none)).run P w= .ok false w:=fun d=>by
  simp [Op.equalIn,run_underlying hu]
 cases op <;> simp only [wC,Option.some.injEq,reduceCtorEq] at ai <;> subst ai
 · have aa:(binOp .eql t (.pointer (some p)) (.pointer none)).run P w= .ok (.bool false) w:=by
    simp only [binOp]
    simp [Op.equal,Op.maxDepth,h 9999]
   simp only [bj,execOp,aC,af,hy]
   simp [go_sem,aa]
 · have aa:(binOp .neq t (.pointer (some p)) (.pointer none)).run P w= .ok (.bool true) w:=by
    simp only [binOp]
    simp [Op.equal,Op.maxDepth,h 9999]
   simp only [bj,execOp,aC,af,hy]
   simp [go_sem,aa]
theorem V9 {F:Nat->Prop} {y:aK E.T.El} {v:Value} (h:Hu y=true) (aj:aB E.T F w ρ bl y v):∃ p,v= .pointer (some p):=by
 cases y <;> simp only [Hu,reduceCtorEq] at h
 · simp only [aB] at aj;obtain ⟨g,_,rfl⟩:=aj;exact ⟨_,rfl⟩
 · simp only [aB] at aj;obtain ⟨_,_,_,rfl,_⟩:=aj;exact ⟨_,rfl⟩
 · simp only [aB] at aj;cases v <;> simp [tg] at aj;rename_i p;cases p <;> simp at aj;exact ⟨_,rfl⟩
 · simp only [aB] at aj;cases v <;> simp [tg] at aj;rename_i p;cases p <;> simp at aj;exact ⟨_,rfl⟩
theorem DY {F:Nat->Prop} {y:aK E.T.El} {v:Value} (h:iV y=true) (aj:aB E.T F w ρ bl y v):v= .agg ⟨v.cells.toList⟩:=by
 cases y <;> simp only [iV,reduceCtorEq] at h
 · rename_i u
   simp only [aB] at aj
   subst aj
   cases v <;> simp only [iV,reduceCtorEq] at h
   simp [Value.cells]
 · simp only [aB] at aj
   obtain ⟨vs,rfl,_⟩:=aj
   simp [Value.cells]
theorem ai7 (ah:aZ E) {F:Nat->Prop} {o:Oper} {a:Act} {t:Nat} {op:BinOp} {fO:Bool} {x y:Operand} {t':TypeId} {u v z:aK E.T.El} (h:(KY E t op fO u v).out z) (aC:o.op= .binOp op t x y t') (al:fO=true-> ∀ k n,a.eval y= .int k n->n≠ 0)
 (af:aB E.T F w ρ bl u (a.eval x)) (hy:aB E.T F w ρ bl v (a.eval y)):∃ r,iI E.P o a r/\aB E.T F w ρ bl z r:=by
 have fB:∀ {b:Bool},op=cond b .eql .neq->(Gf E t b u v).out z-> ∃ r,iI E.P o a r/\aB E.T F w ρ bl z r:=fun {b} ai h=>by
  unfold Gf at h
  split at h
  · rename_i aA
    simp only [Bool.and_eq_true] at aA
    split at h
    · rename_i f d e J aa az
      have h:aK.p (.bool (cond b (f d e) (!f d e)))=z:=h
      subst h
      have akG:=ah.tb.fY _ _ _ aa _ _ _ _ _ (lq af)
      have akH:=ah.tb.fY _ _ _ az _ _ _ _ _ (lq hy)
      exact ⟨.bool (cond b (f d e) (!f d e)),fun w'=>ah.eq t f J _ _ _ _ d e akG akH o a x y t' b (by rw [aC,ai]) (DY aA.1 af) (DY aA.2 hy) w',by simp only [aB]⟩
    · exact h.elim
  · exact h.elim
 unfold KY at h
 split at h
 · exact fB (b:=true) rfl h
 · exact fB (b:=false) rfl h
 · split at h
   · rename_i p q
     simp only [aB] at af hy
     split at h
     · rename_i r aN
       have h:aK.p r=z:=h
       subst h
       exact ⟨r,fun w'=>Ss (fun k ak=>qL ak) al aN aC af hy,by simp only [aB]⟩
     · split at h
       · rename_i m n
         split at h
         · rename_i r aN
           obtain ⟨b,J,aa⟩:=h
           have aa:aK.p r=z:=aa
           subst aa
           have aS:=OT J
           refine ⟨r,fun w'=>?_,by simp only [aB]⟩
           unfold S9 at aN
           split at aN
           · simp only [Option.some.injEq] at aN;subst aN;exact ac9 aC af hy aS
           · simp only [Option.some.injEq] at aN;subst aN;exact ac_ aC af hy aS
           · cases aN
         · exact h.elim
       · rename_i m k n _
         split at h
         · rename_i ai _
           have h:aK.p (.int .u64 (ru m n))=z:=h
           subst h
           exact ⟨_,fun w'=>ayR (by assumption) aC af hy,by simp only [aB]⟩
         · exact h.elim
       · exact h.elim
   · rename_i q _
     split at h
     · rename_i b J aa
       have h:aK.p (.bool b)=z:=h
       subst h
       simp only [Bool.and_eq_true] at J
       simp only [aB] at hy
       obtain ⟨p,aP⟩:=V9 J.1.2 af
       have a1:q= .pointer none:=by
        cases q <;> simp only [V8,reduceCtorEq,and_false] at J
        rename_i pv
        cases pv <;> simp at J ⊢
       exact ⟨_,fun w'=>ayP J.1.1 aa aC aP (by rw [hy,a1]),by simp only [aB]⟩
     · exact h.elim
   · exact h.elim
end
end bK
namespace bK
open Go Go.RowKit ay I
def lY (P:Program) (t:TypeId):Option (Nat × Nat):=match P.underlying t with
 | some (.slice e)=>match P.info? e with
   | some i=>some (e,i.size)
   | none=>none
 | _=>none
theorem pD {P:Program} {t e n:Nat} (h:lY P t=some (e,n)):P.underlying t=some (.slice e)/\ ∀ w,(Go.sizeOf e).run P w= .ok n w:=by
 unfold lY at h
 split at h
 · rename_i e' J
   split at h
   · rename_i i aa
     simp only [Option.some.injEq,Prod.mk.injEq] at h
     obtain ⟨rfl,rfl⟩:=h
     exact ⟨J,run_sizeOf aa⟩
   · cases h
 · cases h
def K4 (E:Env) (bl:List (aI E.T.El)) (t:Nat):aK E.T.El->aK E.T.El->D (aK E.T.El)
 | .s t' l,.p (.int .i64 j)=>match lY E.P t with
   | some (_,n)=>match Nat.beq n (E.T.ty t').size with
     | true=>.op (idx l j) fun d=>.ok (.x t' d 0)
     | false=>.no
   | none=>.no
 | .q t' l,.p (.int .i64 j)=>match lY E.P t with
   | some (_,n)=>match Nat.beq n (E.T.ty t').size with
     | true=>.op (idx l j) fun d=>.ok (.x t' d 0)
     | false=>.no
   | none=>.no
 | .r i g,.p (.int .i64 j)=>match lY E.P t,nth bl i with
   | some (_,n),some (.r t' bN k l)=>match Nat.beq g bN && Nat.beq n (E.T.ty t').size with
     | true=>.op (idx l j) fun d=>.ok (.e i g k t' j d 0)
     | false=>.no
   | some (_,n),some (.k _ sz bN cs)=>match Nat.beq g bN && Nat.beq n sz && decide (0 <=j) && Nat.ble ((j.toNat+ 1)*sz) cs.length && Nat.blt 0 sz with
     | true=>.ok (.w i g (j.toNat*sz))
     | false=>.no
   | _,_=>.no
 | .v i g lo hi,.p (.int .i64 j)=>match lY E.P t,nth bl i with
   | some (_,n),some (.r t' bN k l)=>match Nat.beq g bN && Nat.beq n (E.T.ty t').size with
     | true=>.op (idx ((l.take hi.toNat).drop lo.toNat) j) fun d=>.ok (.e i g k t' (lo+j) d 0)
     | false=>.no
   | _,_=>.no
 | _,_=>.no
theorem amh {α:Type} {l:List α} {lo hi j:Int} {d:α} (aY:0 <=lo) (J:hi<=l.length) (h:idx ((l.take hi.toNat).drop lo.toNat) j=some d):idx l (lo+j)=some d/\ 0 <=j/\lo+j <hi:=by
 obtain ⟨a,b,c⟩:=jr h
 simp only [List.length_drop,List.length_take] at b
 rw [List.getElem?_drop,List.getElem?_take] at c
 split at c
 · refine ⟨?_,a,by omega⟩
   unfold idx
   rw [if_pos (by omega),show (lo+j).toNat=lo.toNat+j.toNat by omega]
   exact c
 · cases c
section
variable {E:Env} {W w:World} {aD:List Nat} {X:Nat->Prop} {bl:List (aI E.T.El)} {ρ:List Value}
theorem yG {t sz n c:Nat} {A:Option Addr} {xs:List Value} (h:rowIs w t sz (.slice A n c) n xs) (aS:0 <n):∃ g,A=some ⟨g,0,none⟩:=h.cap.2.2.2 (by have:=h.cap.1;omega)
theorem IP {t sz n c:Nat} {A:Option Addr} {xs:List Value} (h:rowIs w t sz (.slice A n c) n xs):n<=c:=h.cap.1
theorem Uj {F:Nat->Prop} {t':Nat} {l:List (E.T.El t')} {o:Oper} {a:Act} {t e n:Nat} {x y:Operand} {j:Int} {d:E.T.El t'} {A:Option Addr} {c:Nat} (ar:lY E.P t=some (e,n)) (aS:n=(E.T.ty t').size) (J:idx l j=some d) (aC:o.op= .indexAddr t x y)
 (af:a.eval x= .slice A l.length c) (fX:(ca (E.T.ty t')).rd F w [.slice A l.length c] l) (hy:a.eval y= .int .i64 j):∃ r,iI E.P o a r/\aB E.T F w ρ bl (.x t' d 0) r:=by
 have xX:=J
 obtain ⟨hu,al⟩:=pD ar
 obtain ⟨dT,aJ,cs,bx,b6⟩:=wO _ fX J
 refine ⟨_,fun w'=>oj hu al aC af hy dT aJ,?_⟩
 simp only [aB]
 obtain ⟨db,bO,ao,aq,a0,ch,dt⟩:=(fX:(ca _).rd _ w _ l)
 have cj:l≠ []:=by intro e;subst e;have:=(jr xX).2.1;simp at this
 have aR:=(dt cj).2.1
 simp only [List.cons.injEq,Value.slice.injEq,and_true,true_and] at ao
 obtain ⟨rfl,rfl⟩:=ao
 exact ⟨dO A,f' A+j.toNat*(E.T.ty t').size,cs,by rw [aS];simp,aR,bx,b6⟩
theorem ajc {o:Oper} {a:Act} {t:Nat} {x y:Operand} {u v z:aK E.T.El} (hm:Mem E.T W aD X bl ρ w) (h:(K4 E bl t u v).out z) (aC:o.op= .indexAddr t x y)
 (af:aB E.T (bs X bl ρ w) w ρ bl u (a.eval x)) (hy:aB E.T (bs X bl ρ w) w ρ bl v (a.eval y)):∃ r,iI E.P o a r/\aB E.T (bs X bl ρ w) w ρ bl z r:=by
 unfold K4 at h
 split at h
 · rename_i t' l j
   split at h
   · rename_i e n ar
     split at h
     · rename_i ai
       obtain ⟨d,J,aa⟩:=h
       have aa:aK.x t' d 0 =z:=aa
       subst aa
       simp only [aB] at af hy
       obtain ⟨A,c,aj⟩:=jH _ af
       rw [aj] at af
       exact Uj ar (Nat.eq_of_beq_eq_true ai) J aC aj af hy
     · exact h.elim
   · exact h.elim
 · rename_i t' l j
   split at h
   · rename_i e n ar
     split at h
     · rename_i ai
       obtain ⟨d,J,aa⟩:=h
       have aa:aK.x t' d 0 =z:=aa
       subst aa
       simp only [aB] at af hy
       obtain ⟨A,c,aj⟩:=jH _ af.1
       have af:=af.1
       rw [aj] at af
       exact Uj ar (Nat.eq_of_beq_eq_true ai) J aC aj af hy
     · exact h.elim
   · exact h.elim
 · rename_i i g j
   split at h
   · rename_i e n t' bN k l ar hi
     rw [c3] at hi
     split at h
     · rename_i ai
       simp only [Bool.and_eq_true] at ai
       obtain ⟨d,J,aa⟩:=h
       have aa:aK.e i g k t' j d 0 =z:=aa
       subst aa
       simp only [aB] at af hy
       obtain ⟨_,aO,bx,b6,b'⟩:=af
       rw [hi] at b6 b'
       have ib:=b' (Nat.eq_of_beq_eq_true ai.1)
       obtain ⟨A,c,xs,ao,aq,a0⟩:=hm.ok i _ _ hi bx
       subst ao
       obtain ⟨Vv,Vw,Ds⟩:=jr J
       obtain ⟨dH,rfl⟩:=yG aq (by omega)
       obtain ⟨hu,al⟩:=pD ar
       have aS:=Nat.eq_of_beq_eq_true ai.2
       refine ⟨_,fun w'=>oj hu al aC ib hy rfl ⟨Vv,by omega⟩,?_⟩
       simp only [aB]
       refine ⟨trivial,_,bx,by rw [hi];exact b6,fun _=>⟨⟨_,_,_,rfl,Vv,by omega,by simp [dO,f',hi,hC,aS]⟩,by rw [hi];exact Nat.le_refl _,fun _=>⟨l,by rw [hi];rfl,J⟩⟩⟩
     · exact h.elim
   · rename_i e n t' sz bN cs ar hi
     rw [c3] at hi
     split at h
     · rename_i ai
       simp only [Bool.and_eq_true,decide_eq_true_eq] at ai
       obtain ⟨⟨⟨⟨cg,eH⟩,h9⟩,iw⟩,FU⟩:=ai
       have h:aK.w i g (j.toNat*sz)=z:=h
       subst h
       simp only [aB] at af hy
       obtain ⟨_,aO,bx,b6,b'⟩:=af
       rw [hi] at b6 b'
       have ib:=b' (Nat.eq_of_beq_eq_true cg)
       obtain ⟨A,m,c,xs,ao,aq,a0⟩:=hm.ok i _ _ hi bx
       subst ao
       have iw:=Nat.le_of_ble_eq_true iw
       have FU:=Nat.le_of_ble_eq_true FU
       have hlen:=a0.len
       have azz:=aq.len
       have azx:j.toNat <m:=by
        rcases Nat.lt_or_ge j.toNat m with q | q
        · exact q
        · have:=Nat.mul_le_mul_right sz q
          rw [Nat.add_mul] at iw
          omega
       obtain ⟨dH,rfl⟩:=yG aq (by omega)
       obtain ⟨hu,al⟩:=pD ar
       have aS:=Nat.eq_of_beq_eq_true eH
       refine ⟨_,fun w'=>oj hu al aC ib hy rfl ⟨h9,by omega⟩,?_⟩
       simp only [aB]
       exact ⟨trivial,_,bx,by rw [hi];exact b6,fun _=>⟨_,_,_,rfl,by omega,by simp [dO,f',aS]⟩⟩
     · exact h.elim
   · exact h.elim
 · rename_i i g lo cW j
   split at h
   · rename_i e n t' bN k l ar hi
     rw [c3] at hi
     split at h
     · rename_i ai
       simp only [Bool.and_eq_true] at ai
       obtain ⟨d,J,aa⟩:=h
       have aa:aK.e i g k t' (lo+j) d 0 =z:=aa
       subst aa
       simp only [aB] at af hy
       obtain ⟨_,aO,bx,b6,b'⟩:=af
       rw [hi] at b6 b'
       obtain ⟨db,eA,bO,B,dn,o9,l1,cT,ib,_,bZ⟩:=b' (Nat.eq_of_beq_eq_true ai.1)
       obtain ⟨A,c,xs,ao,aq,a0⟩:=hm.ok i _ _ hi bx
       rw [ao] at dn aq
       simp only [Value.slice.injEq] at dn
       obtain ⟨rfl,rfl,rfl⟩:=dn
       obtain ⟨xX,V_,th⟩:=amh o9 cT J
       obtain ⟨dH,rfl⟩:=yG aq (by omega)
       have x0:=IP aq
       obtain ⟨hu,al⟩:=pD ar
       have aS:=Nat.eq_of_beq_eq_true ai.2
       rw [bZ (by omega)] at ib
       simp only [Option.map_some,iK] at ib
       refine ⟨_,fun w'=>oj hu al aC ib hy rfl ⟨V_,by omega⟩,?_⟩
       simp only [aB]
       refine ⟨trivial,_,bx,by rw [hi];exact b6,fun _=>⟨⟨_,_,_,ao,by omega,by omega,?_⟩,by rw [hi];exact Nat.le_refl _,fun _=>⟨l,by rw [hi];rfl,xX⟩⟩⟩
       rw [hi]
       have:(lo+j).toNat=lo.toNat+j.toNat:=by omega
       simp [dO,f',hC,aS,this,Nat.add_mul]
     · exact h.elim
   · exact h.elim
 · exact h.elim
def K7 (E:Env) (bl:List (aI E.T.El)) (t:Nat):aK E.T.El->D (aK E.T.El)
 | .p (.string ⟨⟨p⟩⟩)=>match iX (E.P.underlying t) with
   | some .s=>.ok (.p (.int .i64 (p.length:Int)))
   | _=>.no
 | .p (.slice _ n _)=>match iX (E.P.underlying t) with
   | some .cz=>.ok (.p (.int .i64 (n:Int)))
   | _=>.no
 | .s _ l=>match iX (E.P.underlying t) with
   | some .cz=>.ok (.p (.int .i64 (l.length:Int)))
   | _=>.no
 | .q _ l=>match iX (E.P.underlying t) with
   | some .cz=>.ok (.p (.int .i64 (l.length:Int)))
   | _=>.no
 | .r i g=>match iX (E.P.underlying t),nth bl i with
   | some .cz,some (.r _ bN _ l)=>match Nat.beq g bN with
     | true=>.ok (.p (.int .i64 (l.length:Int)))
     | false=>.no
   | some .cz,some (.k _ sz bN cs)=>match Nat.beq g bN && Nat.blt 0 sz with
     | true=>.ok (.p (.int .i64 ((cs.length / sz:Nat):Int)))
     | false=>.no
   | _,_=>.no
 | .v i g lo hi=>match iX (E.P.underlying t) with
   | some .cz=>match Nat.beq g (ql bl i) with
     | true=>.ok (.p (.int .i64 (hi - lo)))
     | false=>.no
   | _=>.no
 | _=>.no
theorem ajg {o:Oper} {a:Act} {t:Nat} {x:Operand} {u z:aK E.T.El} (hm:Mem E.T W aD X bl ρ w) (h:(K7 E bl t u).out z) (aC:o.op= .call { callee:=.builtin .len,args:=#[x],argTypes:=#[t] })
 (af:aB E.T (bs X bl ρ w) w ρ bl u (a.eval x)):∃ r,iI E.P o a r/\aB E.T (bs X bl ρ w) w ρ bl z r:=by
 have fin:∀ {A:Option Addr} {n c:Nat},iX (E.P.underlying t)=some .cz->a.eval x= .slice A n c->(D.ok (aK.p (.int .i64 (n:Int)))).out z-> ∃ r,iI E.P o a r/\aB E.T (bs X bl ρ w) w ρ bl z r:=fun {A n c} ak aj h=>by
  have h:aK.p (.int .i64 (n:Int))=z:=h
  subst h
  obtain ⟨e,he⟩:=(qL ak:kv.ok E.P t .cz)
  exact ⟨_,fun w'=>ac3 he aC aj,by simp only [aB]⟩
 unfold K7 at h
 split at h
 · rename_i p
   split at h
   · rename_i ak
     have h:aK.p (.int .i64 (p.length:Int))=z:=h
     subst h
     simp only [aB] at af
     exact ⟨_,fun w'=>ac4 (qL ak) aC af,by simp only [aB]⟩
   · exact h.elim
 · split at h
   · rename_i ak;simp only [aB] at af;exact fin ak af h
   · exact h.elim
 · split at h
   · rename_i ak;simp only [aB] at af;obtain ⟨A,c,aj⟩:=jH _ af;exact fin ak aj h
   · exact h.elim
 · split at h
   · rename_i ak;simp only [aB] at af;obtain ⟨A,aj⟩:=af.2;exact fin ak aj h
   · exact h.elim
 · rename_i i g
   split at h
   · rename_i t' bN k l ak hi
     rw [c3] at hi
     split at h
     · rename_i ai
       simp only [aB] at af
       obtain ⟨_,aO,bx,b6,b'⟩:=af
       rw [hi] at b'
       obtain ⟨A,c,xs,ao,_⟩:=hm.ok i _ _ hi bx
       exact fin ak ((b' (Nat.eq_of_beq_eq_true ai)).trans ao) h
     · exact h.elim
   · rename_i t' sz bN cs ak hi
     rw [c3] at hi
     split at h
     · rename_i ai
       simp only [Bool.and_eq_true] at ai
       simp only [aB] at af
       obtain ⟨_,aO,bx,b6,b'⟩:=af
       rw [hi] at b'
       obtain ⟨A,m,c,xs,ao,aq,a0⟩:=hm.ok i _ _ hi bx
       have hlen:=a0.len
       have aa:=aq.len
       have ej:=Nat.le_of_ble_eq_true ai.2
       have a1:cs.length / sz=m:=by rw [<-hlen,aa];exact Nat.mul_div_cancel _ ej
       rw [a1] at h
       exact fin ak ((b' (Nat.eq_of_beq_eq_true ai.1)).trans ao) h
     · exact h.elim
   · exact h.elim
 · rename_i i g lo cW
   split at h
   · rename_i ak
     split at h
     · rename_i ai
       have ai:=Nat.eq_of_beq_eq_true ai
       rw [xW] at ai
       simp only [aB] at af
       obtain ⟨_,aO,bx,b6,b'⟩:=af
       obtain ⟨A,m,c,B,dn,o9,l1,cT,aj,_⟩:=b' ai
       refine fin ak aj ?_
       have h:aK.p (.int .i64 (cW - lo))=z:=h
       rw [<-h,show ((cW.toNat - lo.toNat:Nat):Int)=cW - lo by omega]
       exact rfl
     · exact h.elim
   · exact h.elim
 · exact h.elim
end
end bK
namespace bK
open Go Go.RowKit ay I
theorem aem {α:Type} {T:c8 α} {F:Nat->Prop} {w:World} {A:Option Addr} {c:Nat} {li r:List α} {i j:Int} (h:(ca T).rd F w [.slice A li.length c] li) (aN:cut li i j=some r) :
 (ca T).rd F w [.slice (if c=i.toNat then A else A.map (·.add (i.toNat*T.size))) (j.toNat - i.toNat) (c - i.toNat)] r/\j.toNat - i.toNat=r.length/\li.length<=c:=by
 obtain ⟨⟨aY,J,aa⟩,rfl⟩:=KF aN
 obtain ⟨eV,cJ,ao,aq,a0,ch,dt⟩:=h
 simp only [List.cons.injEq,Value.slice.injEq,and_true,true_and] at ao
 obtain ⟨rfl,rfl⟩:=ao
 have hlen:((li.take j.toNat).drop i.toNat).length=j.toNat - i.toNat:=by rw [List.length_drop,List.length_take];omega
 refine ⟨?_,hlen.symm,aq⟩
 refine ⟨_,c - i.toNat,by rw [hlen],by rw [hlen];omega,by omega,fun dT=>?_,fun cj=>?_⟩
 · split at dT
   · have:=ch dT;omega
   · cases A with
     | none=>have:=ch rfl;omega
     | some dR=>cases dT
 · have hb:0 <((li.take j.toNat).drop i.toNat).length:=List.length_pos_iff.2 cj
   have Hc:li≠ []:=by intro e;subst e;simp at hb
   obtain ⟨dz,bN,xs,fh,hL⟩:=dt Hc
   have oS:c≠i.toNat:=by omega
   rw [if_neg oS,dz]
   refine ⟨?_,?_⟩
   · simp only [Option.map_some,iK]
     rfl
   simp only [Option.map_some,iK]
   refine ⟨bN,_,pz i.toNat j.toNat fh,fun q u hu=>?_⟩
   have a1:(xs.take (j.toNat*T.size))[i.toNat*T.size+q]? =some u:=by rwa [List.getElem?_drop] at hu
   rw [List.getElem?_take] at a1
   split at a1
   · have:=hL (i.toNat*T.size+q) u a1
     simpa [dO,f',Nat.add_assoc] using this
   · cases a1
def nq {El:Nat->Type} (z:Int):Option (aK El)->Option Int
 | none=>some z
 | some (.p (.int .i64 n))=>some n
 | _=>none
def uC (n:Nat) (lo hi:Int):Option Unit:=if 0 <=lo/\lo<=hi/\hi<=(n:Int) then some () else none
theorem acg {n:Nat} {lo hi:Int} {u:Unit} (h:uC n lo hi=some u):0 <=lo/\lo<=hi/\hi<=(n:Int):=by
 unfold uC at h
 split at h
 · assumption
 · cases h
def y6 {El:Nat->Type}:Option (aK El)->Bool
 | none=>true
 | some (.p (.int .i64 (.ofNat 0)))=>true
 | _=>false
def K2 (E:Env) (bl:List (aI E.T.El)) (t:Nat) (u:aK E.T.El) (lo hi:Option (aK E.T.El)):D (aK E.T.El):=match u with
 | .s t' l=>match lY E.P t,nq 0 lo,nq (l.length:Int) hi with
   | some (_,n),some i,some j=>match Nat.beq n (E.T.ty t').size with
     | true=>.op (cut l i j) fun r=>.ok (.s t' r)
     | false=>.no
   | _,_,_=>.no
 | .p (.string ⟨⟨p⟩⟩)=>match iX (E.P.underlying t),nq 0 lo,nq (p.length:Int) hi with
   | some .s,some i,some j=>.op (cut p i j) fun r=>.ok (.p (cv r))
   | _,_,_=>.no
 | .r i g=>match lY E.P t,nth bl i with
   | some (_,n),some (.r t' bN _ l)=>match nq 0 lo,nq (l.length:Int) hi,Nat.beq g bN && Nat.beq n (E.T.ty t').size with
     | some a,some b,true=>.op (uC l.length a b) fun _=>.ok (.v i g a b)
     | _,_,_=>.no
   | _,_=>.no
 | .v i g p q=>match lY E.P t,nth bl i with
   | some (_,n),some (.r t' bN _ l)=>match nq 0 lo,nq (q - p) hi,Nat.beq g bN && Nat.beq n (E.T.ty t').size with
     | some a,some b,true=>.op (uC (q - p).toNat a b) fun _=>.ok (.v i g (p+a) (p+b))
     | _,_,_=>.no
   | _,_=>.no
 | .p (.slice none 0 0)=>match lY E.P t,y6 lo && y6 hi with
   | some _,true=>.ok (.p (.slice none 0 0))
   | _,_=>.no
 | _=>.no
section
variable {E:Env} {W w:World} {aD:List Nat} {X:Nat->Prop} {bl:List (aI E.T.El)} {ρ:List Value} {a:Act}
def u3 (E:Env) (F:Nat->Prop) (w:World) (ρ:List Value) (bl:List (aI E.T.El)) (a:Act):Option Operand->Option (aK E.T.El)->Prop
 | none,none=>True
 | some x,some y=>aB E.T F w ρ bl y (a.eval x)
 | _,_=>False
theorem p9 {F:Nat->Prop} {lo:Option Operand} {u:Option (aK E.T.El)} {z i:Int} (h:u3 E F w ρ bl a lo u) (ai:nq z u=some i):(lo=none/\i=z)\/ ∃ x,lo=some x/\a.eval x= .int .i64 i:=by
 cases lo with
 | none=>
   cases u with
   | none=>simp only [nq,Option.some.injEq] at ai;exact .inl ⟨rfl,ai.symm⟩
   | some y=>exact h.elim
 | some x=>
   cases u with
   | none=>exact h.elim
   | some y=>
     right
     refine ⟨x,rfl,?_⟩
     have h:aB E.T F w ρ bl y (a.eval x):=h
     unfold nq at ai
     split at ai
     · rename_i e;cases e
     · rename_i n e
       simp only [Option.some.injEq] at e ai
       subst e;subst ai
       simpa only [aB] using h
     · cases ai
theorem JT {F:Nat->Prop} {lo:Option Operand} {u:Option (aK E.T.El)} (h:u3 E F w ρ bl a lo u) (ai:y6 u=true):(lo=none/\(0 :Int)= 0)\/ ∃ x,lo=some x/\a.eval x= .int .i64 0 :=by
 refine p9 (z:=0) (i:=0) h ?_
 unfold y6 at ai
 split at ai
 · rfl
 · rfl
 · cases ai
theorem ai' {o:Oper} {t:Nat} {x:Operand} {lo hi:Option Operand} {u z:aK E.T.El} {ab6 ab5:Option (aK E.T.El)} (hm:Mem E.T W aD X bl ρ w) (h:(K2 E bl t u ab6 ab5).out z) (aC:o.op= .slice t x lo hi none)
 (af:aB E.T (bs X bl ρ w) w ρ bl u (a.eval x)) (lF:u3 E (bs X bl ρ w) w ρ bl a lo ab6) (iD:u3 E (bs X bl ρ w) w ρ bl a hi ab5):∃ r,iI E.P o a r/\aB E.T (bs X bl ρ w) w ρ bl z r:=by
 unfold K2 at h
 split at h
 · rename_i t' l
   split at h
   · rename_i e n i j ar J aa
     split at h
     · rename_i ai
       obtain ⟨r,az,bp⟩:=h
       have bp:aK.s t' r=z:=bp
       subst bp
       obtain ⟨hu,al⟩:=pD ar
       simp only [aB] at af
       obtain ⟨A,c,aj⟩:=jH _ af
       rw [aj] at af
       obtain ⟨bt,bu,cH⟩:=aem af az
       have aS:=Nat.eq_of_beq_eq_true ai
       subst aS
       exact ⟨_,fun w'=>JM hu al aC aj (p9 lF J) (p9 iD aa) (KF az).1 cH,by simp only [aB];exact bt⟩
     · exact h.elim
   · exact h.elim
 · rename_i p
   split at h
   · rename_i i j ak J aa
     obtain ⟨r,az,bp⟩:=h
     have bp:aK.p (cv r)=z:=bp
     subst bp
     simp only [aB] at af
     exact ⟨_,fun w'=>ayv (qL ak) aC af (p9 lF J) (p9 iD aa) az,by simp only [aB]⟩
   · exact h.elim
 · rename_i i g
   split at h
   · rename_i e n t' bN k l ar cW
     rw [c3] at cW
     split at h
     · rename_i p q J aa ai
       simp only [Bool.and_eq_true] at ai
       obtain ⟨r,az,bp⟩:=h
       have bp:aK.v i g p q=z:=bp
       subst bp
       obtain ⟨hu,al⟩:=pD ar
       simp only [aB] at af
       obtain ⟨_,aO,bx,b6,b'⟩:=af
       rw [cW] at b6 b'
       have ib:=b' (Nat.eq_of_beq_eq_true ai.1)
       obtain ⟨A,c,xs,ao,aq,a0⟩:=hm.ok i _ _ cW bx
       rw [ao] at ib aq
       obtain ⟨aw,v1,v2⟩:=acg az
       have aS:=Nat.eq_of_beq_eq_true ai.2
       subst aS
       refine ⟨_,fun w'=>JM hu al aC ib (p9 lF J) (p9 iD aa) ⟨aw,v1,v2⟩ (IP aq),?_⟩
       simp only [aB]
       have dT:A=A.map (·.add (0 *(E.T.ty t').size)):=by
        cases A <;> simp [Addr.add]
       refine ⟨trivial,aO,bx,by rw [cW];exact b6,fun _=>⟨A,_,c,_,ao,aw,v1,v2,rfl,fun e=>?_,fun e=>?_⟩⟩
       · subst e
         split
         · rfl
         · exact dT.symm
       · rw [if_neg (by have:=IP aq;omega),cW];rfl
     · exact h.elim
   · exact h.elim
 · rename_i i g p q
   split at h
   · rename_i e n t' bN k l ar cW
     rw [c3] at cW
     split at h
     · rename_i s r J aa ai
       simp only [Bool.and_eq_true] at ai
       obtain ⟨_,az,bp⟩:=h
       have bp:aK.v i g (p+s) (p+r)=z:=bp
       subst bp
       obtain ⟨hu,al⟩:=pD ar
       simp only [aB] at af
       obtain ⟨_,aO,bx,b6,b'⟩:=af
       rw [cW] at b6 b'
       obtain ⟨db,eA,bO,B,dn,o9,l1,cT,ib,GQ,bZ⟩:=b' (Nat.eq_of_beq_eq_true ai.1)
       obtain ⟨A,c,xs,ao,aq,a0⟩:=hm.ok i _ _ cW bx
       rw [ao] at dn aq
       simp only [Value.slice.injEq] at dn
       obtain ⟨rfl,rfl,rfl⟩:=dn
       have x0:=IP aq
       obtain ⟨aw,v1,v2⟩:=acg az
       have aS:=Nat.eq_of_beq_eq_true ai.2
       subst aS
       have U4:=p9 iD aa
       rw [show q - p=((q.toNat - p.toNat:Nat):Int) by omega] at U4
       refine ⟨_,fun w'=>JM hu al aC ib (p9 lF J) U4 ⟨aw,v1,by omega⟩ (by omega),?_⟩
       simp only [aB]
       have DU:(p+s).toNat=p.toNat+s.toNat:=by omega
       have iF:(p+r).toNat=p.toNat+r.toNat:=by omega
       refine ⟨trivial,aO,bx,by rw [cW];exact b6,fun _=>⟨A,_,c,(if c - p.toNat=s.toNat then B else B.map (·.add (s.toNat*(E.T.ty t').size))),ao,by omega,by omega,by omega,?_,fun e=>?_,fun e=>?_⟩⟩
       · rw [DU,iF,show p.toNat+r.toNat - (p.toNat+s.toNat)=r.toNat - s.toNat by omega,show c - p.toNat - s.toNat=c - (p.toNat+s.toNat) by omega]
       · have Nk:p= 0 :=by omega
         have vN:s= 0 :=by omega
         subst Nk;subst vN
         rw [GQ rfl]
         split
         · rfl
         · cases A <;> simp [Addr.add]
       · obtain ⟨dH,rfl⟩:=yG aq (by omega)
         rw [if_neg (by omega),bZ (by omega),cW]
         simp [iK,hC,DU,Nat.add_mul]
     · exact h.elim
   · exact h.elim
 · split at h
   · rename_i e ar ai
     have h:aK.p (.slice none 0 0)=z:=h
     subst h
     simp only [Bool.and_eq_true] at ai
     obtain ⟨hu,al⟩:=pD ar
     simp only [aB] at af
     exact ⟨_,fun w'=>ayu hu al aC af (JT lF ai.1) ((JT iD ai.2).imp (fun h=>⟨h.1,rfl⟩) id),by simp only [aB]⟩
   · exact h.elim
 · exact h.elim
end
end bK
namespace bK
open Go Go.RowKit ay I
def pc {cL β:Type} (K:hI cL) (d:List (cL × β)) (k:cL):Option β:=@dL cL β K.dec d k
def hS {cL β:Type} (K:hI cL) (d:List (cL × β)) (k:cL):Option Nat:=@lP cL β K.dec d k
def pd {cL β:Type} (K:hI cL) (d:List (cL × β)) (k:cL) (v:β):List (cL × β):=@hT cL β K.dec d k v
abbrev hI.enc {cL:Type} (K:hI cL):cL->Value:=@jg.enc cL K.dec K.nN
abbrev hI.desc {cL:Type} (K:hI cL):TypeDesc:=@jg.desc cL K.dec K.nN
section
variable {T:b_} {F:Nat->Prop} {w:World} {b1 vt:Nat} {K:hI (T.El b1)}
theorem Lm (k:T.El b1):∀ {es:List MapEntry} {d:List (T.El b1 × T.El vt)} (i:Nat),iu T F w K es d ->
 (pc K d k=none/\hS K d k=none/\Instr.findNow K.desc (K.enc k) es i=some none)\/(∃ p x v,pc K d k=some x/\hS K d k=some p/\u5 T F w vt x v/\Instr.findNow K.desc (K.enc k) es i=some (some (i+p,v)))
 | [],[],i,_=>.inl ⟨rfl,rfl,rfl⟩
 | [],_::_,_,h=>h.elim
 | _::_,[],_,h=>h.elim
 | e::es,p::d,i,h=>by
   obtain ⟨J,aa,az⟩:=h
   have ar:Instr.sameNow K.desc (K.enc k) e.key=some (@decide (p.1 =k) (K.dec p.1 k)):=by rw [J];exact @jg.same _ K.dec K.nN k p.1
   by_cases aP:p.1 =k
   · right
     refine ⟨0,p.2,e.val,?_,?_,aa,?_⟩
     · simp only [pc,dL,if_pos aP]
     · simp only [hS,lP,if_pos aP]
     · simp only [Instr.findNow,ar,aP,decide_true,Nat.add_zero]
   · have ao:Instr.findNow K.desc (K.enc k) (e::es) i=Instr.findNow K.desc (K.enc k) es (i+ 1):=by simp only [Instr.findNow,ar,aP,decide_false]
     rcases Lm k (i+ 1) az with ⟨bx,b6,b'⟩ | ⟨q,x,v,bx,b6,b',gQ⟩
     · left
       refine ⟨?_,?_,by rw [ao];exact b'⟩
       · simp only [pc,dL,if_neg aP];exact bx
       · simp only [hS,lP,if_neg aP]
         simp only [hS] at b6
         rw [b6];rfl
     · right
       refine ⟨q+ 1,x,v,?_,?_,b',?_⟩
       · simp only [pc,dL,if_neg aP];exact bx
       · simp only [hS,lP,if_neg aP]
         simp only [hS] at b6
         rw [b6];rfl
       · rw [ao,gQ,show i+ 1 +q=i+(q+ 1) by omega]
theorem iu.len:∀ {es:List MapEntry} {d:List (T.El b1 × T.El vt)},iu T F w K es d->es.length=d.length
 | [],[],_=>rfl
 | [],_::_,h=>h.elim
 | _::_,[],h=>h.elim
 | _::_,_::_,h=>by simp [iu.len h.2.2]
theorem QL {P:Program} {es:Array MapEntry} {d:List (T.El b1 × T.El vt)} {t:Nat} (k:T.El b1) (ak:P.underlying t=some K.desc) (he:iu T F w K es.toList d) (w':World) :
 (pc K d k=none/\hS K d k=none/\(Instr.findKey t (K.enc k) es.toList).run P w'= .ok none w')\/(∃ p x v,pc K d k=some x/\hS K d k=some p/\u5 T F w vt x v/\(Instr.findKey t (K.enc k) es.toList).run P w'= .ok (some (p,v)) w'):=by
 rcases Lm k 0 he with ⟨J,aa,az⟩ | ⟨p,x,v,J,aa,az,bp⟩
 · left
   refine ⟨J,aa,?_⟩
   simp only [Instr.findKey,Sem.run_bind,run_underlying ak,Result.andThen_ok,az]
   rfl
 · right
   refine ⟨p,x,v,J,aa,az,?_⟩
   simp only [Instr.findKey,Sem.run_bind,run_underlying ak,Result.andThen_ok,bp,Nat.zero_add]
   rfl
end
def F_:Option TypeDesc->TypeDesc->Bool
 | some (.int k),.int k'=>j8 k k'
 | some .string,.string=>true
 | _,_=>false
theorem S6 {o:Option TypeDesc} {d:TypeDesc} (h:F_ o d=true):o=some d:=by
 unfold F_ at h
 split at h
 · rw [lK h]
 · rfl
 · cases h
def RI:Value->Bool->Bool
 | .agg _,b=>b
 | _,b=>!b
def y7 (P:Program) (t:TypeId):Option Value:=match P.info? t with
 | some i=>i.zero
 | none=>none
theorem ayW {P:Program} {t:TypeId} {z:Value} (h:y7 P t=some z):∀ w,(zeroValue t).run P w= .ok z w:=by
 unfold y7 at h
 split at h
 · rename_i i J
   intro w
   simp only [zeroValue,typeInfo,Sem.run_bind]
   simp [go_sem,J,h]
 · cases h
theorem ade {z:Value} {b:Bool} (h:RI z b=true):z=tZ b z.cells.toList:=by
 unfold RI at h
 split at h
 · rename_i cs
   subst h
   obtain ⟨vs⟩:=cs
   rfl
 · rename_i al
   have ai:b=false:=by simpa using h
   subst ai
   cases z <;> first | rfl | exact (al _ rfl).elim
def rN (E:Env) (vt CT:Nat):Option (E.T.El vt):=match y7 E.P CT with
 | some z=>match RI z (E.T.e vt).agg with
   | true=>(E.T.e vt).fY (z.cells.toList.map .p)
   | false=>none
 | none=>none
def mapOf (P:Program) (t:TypeId):Option (Nat × Nat):=match P.underlying t with
 | some (.map k e)=>some (k,e)
 | _=>none
theorem On {P:Program} {t k e:Nat} (h:mapOf P t=some (k,e)):P.underlying t=some (.map k e):=by
 unfold mapOf at h
 split at h
 · rename_i J
   simp only [Option.some.injEq,Prod.mk.injEq] at h
   obtain ⟨rfl,rfl⟩:=h
   exact J
 · cases h
def HK {El:Nat->Type} (bl:List (aI El)):aK El->Option (Σ HA:Nat × Nat,List (El HA.1 × El HA.2))
 | .m i=>match nth bl i with
   | some (.m b1 vt d)=>some ⟨(b1,vt),d⟩
   | _=>none
 | .n b1 vt d=>some ⟨(b1,vt),d⟩
 | _=>none
def yk (E:Env) (ok:Bool) {b1 vt:Nat} (K:hI (E.T.El b1)) (d:List (E.T.El b1 × E.T.El vt)) (k:E.T.El b1) (z:E.T.El vt):aK E.T.El:=match ok with
 | true=>.u [E.T.val vt ((pc K d k).getD z),.p (.bool (pc K d k).isSome)]
 | false=>E.T.val vt ((pc K d k).getD z)
def K9 (E:Env) (bl:List (aI E.T.El)) (t:Nat) (ok:Bool) (u v:aK E.T.El):D (aK E.T.El):=match mapOf E.P t,HK bl u with
 | some (k,e),some ⟨(b1,vt),d⟩=>match (E.T.e b1).key with
   | some K=>match F_ (E.P.underlying k) K.desc,(E.T.e b1).fY (cellsOf v),rN E vt e,(match iV v with | true=>(E.T.e b1).agg | false=>!(E.T.e b1).agg) with
     | true,some key,some z,true=>.ok (yk E ok K d key z)
     | _,_,_,_=>.no
   | none=>.no
 | _,_=>.no
section
variable {E:Env} {W w:World} {aD:List Nat} {X:Nat->Prop} {bl:List (aI E.T.El)} {ρ:List Value} {a:Act}
def wu {El:Nat->Type}:aK El->Option Nat
 | .m i=>some i
 | _=>none
theorem ZZ (hm:Mem E.T W aD X bl ρ w) {u:aK E.T.El} {v:Value} {b1 vt:Nat} {d:List (E.T.El b1 × E.T.El vt)} (h:HK bl u=some ⟨(b1,vt),d⟩) (aj:aB E.T (bs X bl ρ w) w ρ bl u v) :
 ∃ r,v= .map (some r)/\rY E.T (bs X bl ρ w) w b1 vt r d/\FE X bl ρ w r (wu u):=by
 cases u <;> simp only [HK,reduceCtorEq] at h
 · rename_i i
   split at h
   · rename_i amK awn d' hi
     simp only [Option.some.injEq,Sigma.mk.injEq,Prod.mk.injEq] at h
     obtain ⟨⟨rfl,rfl⟩,h⟩:=h
     have h:=eq_of_heq h
     subst h
     rw [c3] at hi
     simp only [aB] at aj
     obtain ⟨r,J,rfl⟩:=aj
     obtain ⟨hV,ao,aq⟩:=hm.ok i _ _ hi J
     simp only [Value.map.injEq,Option.some.injEq] at ao
     subst ao
     exact ⟨r,rfl,aq,_,_,hi,J,by simp [bD,ai]⟩
   · cases h
 · rename_i amK awn d'
   simp only [Option.some.injEq,Sigma.mk.injEq,Prod.mk.injEq] at h
   obtain ⟨⟨rfl,rfl⟩,h⟩:=h
   have h:=eq_of_heq h
   subst h
   simp only [aB] at aj
   obtain ⟨r,rfl,J,aa⟩:=aj
   exact ⟨r,rfl,aa,J⟩
theorem Km {F:Nat->Prop} {u:aK E.T.El} {v:Value} {b:Bool} (aj:aB E.T F w ρ bl u v) (h:(match iV u with | true=>b | false=>!b)=true):v=tZ b v.cells.toList:=by
 cases a3:iV u with
 | true=>
   rw [a3] at h
   have h:b=true:=h
   subst h
   exact DY a3 aj
 | false=>
   rw [a3] at h
   have h:b=false:=by simpa using h
   subst h
   have hc:=lq aj
   have:v.cells.toList= [v]:=by
    cases u with
    | p u=>
      simp only [aB] at aj
      subst aj
      cases v <;> first | rfl | (simp [iV] at a3)
    | a l=>simp [iV] at a3
    | b i o=>simp only [aB] at aj;obtain ⟨g,_,rfl⟩:=aj;rfl
    | x t d o=>simp only [aB] at aj;obtain ⟨_,_,_,rfl,_⟩:=aj;rfl
    | s t l=>simp only [aB] at aj;obtain ⟨A,c,e⟩:=jH _ aj;subst e;rfl
    | q t l=>simp only [aB] at aj;obtain ⟨_,A,rfl⟩:=aj;rfl
    | r i g=>simp only [aB] at aj;exact F6 aj.1
    | v i g lo hi=>simp only [aB] at aj;exact F6 aj.1
    | e i g k t j d o=>simp only [aB] at aj;exact F5 aj.1
    | w i g o=>simp only [aB] at aj;exact F5 aj.1
    | m i=>simp only [aB] at aj;obtain ⟨g,_,rfl⟩:=aj;rfl
    | n _ _ _=>simp only [aB] at aj;obtain ⟨g,rfl,_⟩:=aj;rfl
    | f fn cs=>simp only [aB] at aj;obtain ⟨g,rfl,_⟩:=aj;rfl
    | h fn us=>simp only [aB] at aj;obtain ⟨g,rfl,_⟩:=aj;rfl
    | u l=>simp only [aB] at aj;obtain ⟨g,rfl,_⟩:=aj;rfl
    | i t z=>simp only [aB] at aj;obtain ⟨g,rfl,_⟩:=aj;rfl
   rw [this];rfl
theorem acf (ah:aZ E) {F:Nat->Prop} {vt:Nat} {x:E.T.El vt} {v:Value} (h:u5 E.T F w vt x v):aB E.T F w ρ bl (E.T.val vt x) v:=by
 obtain ⟨xs,J,rfl⟩:=h
 exact ah.tb.val J
theorem val_zero (ah:aZ E) {F:Nat->Prop} {vt CT:Nat} {z:E.T.El vt} (h:rN E vt CT=some z):∃ et,(∀ w,(zeroValue CT).run E.P w= .ok et w)/\aB E.T F w ρ bl (E.T.val vt z) et:=by
 unfold rN at h
 split at h
 · rename_i et J
   split at h
   · rename_i aa
     refine ⟨et,ayW J,?_⟩
     have:=ah.tb.fY _ _ _ h F w ρ bl _ (n' et.cells.toList)
     rw [ade aa]
     have aj:=ah.tb.val (ρ:=ρ) (bl:=bl) this
     exact aj
   · cases h
 · cases h
theorem aji (ah:aZ E) (hm:Mem E.T W aD X bl ρ w) {o:Oper} {t:Nat} {ok:Bool} {x y:Operand} {u v z:aK E.T.El} (h:(K9 E bl t ok u v).out z) (aC:o.op= .lookup t x y ok)
 (af:aB E.T (bs X bl ρ w) w ρ bl u (a.eval x)) (hy:aB E.T (bs X bl ρ w) w ρ bl v (a.eval y)) :
 ∃ r q,aB E.T (bs X bl ρ w) w ρ bl z r/\FE X bl ρ w q (wu u)/\ ∀ w',w'.heap[q]? =w.heap[q]? ->bj E.P o a w' r w':=by
 unfold K9 at h
 split at h
 · rename_i k e b1 vt d J aa
   split at h
   · rename_i K cV
     split at h
     · rename_i key g5 aO M7 al qp
       have h:yk E ok K d key g5=z:=h
       subst h
       obtain ⟨q,x6,⟨adm,C_,es,fL,ed,gO,nW⟩,s6⟩:=ZZ hm aa af
       rw [cV] at C_
       cases C_
       have Dy:a.eval y=K.enc key:=by
        have ao:=ah.tb.fY _ _ _ M7 _ _ _ _ _ (lq hy)
        have aq:=ah.tb.key _ _ cV _ _ _ _ ao
        exact (Km hy qp).trans aq
       have hu:=On J
       have qC:=S6 aO
       obtain ⟨et,kX,VY⟩:=val_zero ah (w:=w) (F:=bs X bl ρ w) (ρ:=ρ) (bl:=bl) al
       have abx:∀ w',w'.heap[q]? =w.heap[q]? ->(Instr.lookup t (.map (some q)) (K.enc key) ok).run E.P w'=(do
        let (v,apb) <-match <-Instr.findKey k (K.enc key) es.toList with
         | some (_,v)=>pure (v,true)
         | none=>pure (<-zeroValue e,false)
        pure (if ok then Value.tuple #[v,.bool apb] else v):Sem Value).run E.P w':=fun w' hw=>by
        simp only [Instr.lookup,Sem.run_bind,Sem.run_pure,run_underlying hu,Result.andThen_ok,MapKept.run_getObj_map (hw.trans ed),@jg.check _ K.dec K.nN E.P w' es.isEmpty k key qC]
        rfl
       rcases QL (vt:=vt) key qC gO w with ⟨f1,f2,_⟩ | ⟨p,acY,y0,f1,f2,f3,f6⟩
       · refine ⟨if ok then .tuple #[et,.bool false] else et,q,?_,s6,fun w' hw=>?_⟩
         · cases ok with
           | true=>simp only [yk,f1,Option.getD_none,Option.isSome_none,aB,if_true];exact ⟨[et,.bool false],rfl,by simp only [bc];exact ⟨_,_,rfl,VY,_,_,rfl,by simp only [aB],rfl⟩⟩
           | false=>simp only [yk,f1,Option.getD_none];exact VY
         · simp only [bj,execOp,aC,x6,Dy,Sem.run_bind,abx w' hw]
           rcases QL (vt:=vt) key qC gO w' with ⟨_,_,f4⟩ | ⟨p,acY,y0,dz,_⟩
           · simp only [f4,Result.andThen_ok,Sem.run_bind,kX,Sem.run_pure]
           · rw [f1] at dz;cases dz
       · refine ⟨if ok then .tuple #[y0,.bool true] else y0,q,?_,s6,fun w' hw=>?_⟩
         · cases ok with
           | true=>simp only [yk,f1,Option.getD_some,Option.isSome_some,aB,if_true];exact ⟨[y0,.bool true],rfl,by simp only [bc];exact ⟨_,_,rfl,acf ah f3,_,_,rfl,by simp only [aB],rfl⟩⟩
           | false=>simp only [yk,f1,Option.getD_some];exact acf ah f3
         · simp only [bj,execOp,aC,x6,Dy,Sem.run_bind,abx w' hw]
           have f5:∀ w',(Instr.findKey k (K.enc key) es.toList).run E.P w'= .ok (some (p,y0)) w':=by
            intro w'
            rcases Lm (vt:=vt) key 0 gO with ⟨dz,_⟩ | ⟨pv,l3,eT,dz,bN,fh,hL⟩
            · rw [f1] at dz;cases dz
            · have:(Instr.findKey k (K.enc key) es.toList).run E.P w= .ok (some (pv,eT)) w:=by
               simp only [Instr.findKey,Sem.run_bind,run_underlying qC,Result.andThen_ok,hL,Nat.zero_add]
               rfl
              rw [f6] at this
              simp only [Result.ok.injEq,Option.some.injEq,Prod.mk.injEq,and_true] at this
              obtain ⟨rfl,rfl⟩:=this
              simp only [Instr.findKey,Sem.run_bind,run_underlying qC,Result.andThen_ok,hL,Nat.zero_add]
              rfl
           simp only [f5,Result.andThen_ok,Sem.run_bind,Sem.run_pure]
     · exact h.elim
   · exact h.elim
 · exact h.elim
def K8 (E:Env) (bl:List (aI E.T.El)) (t:Nat) (u:aK E.T.El):D (aK E.T.El):=match mapOf E.P t,HK bl u with
 | some _,some ⟨_,d⟩=>.ok (.p (.int .i64 (d.length:Int)))
 | _,_=>.no
theorem ajf (hm:Mem E.T W aD X bl ρ w) {o:Oper} {t:Nat} {x:Operand} {u z:aK E.T.El} (h:(K8 E bl t u).out z) (aC:o.op= .call { callee:=.builtin .len,args:=#[x],argTypes:=#[t] })
 (af:aB E.T (bs X bl ρ w) w ρ bl u (a.eval x)):∃ r q,aB E.T (bs X bl ρ w) w ρ bl z r/\FE X bl ρ w q (wu u)/\ ∀ w',w'.heap[q]? =w.heap[q]? ->bj E.P o a w' r w':=by
 unfold K8 at h
 split at h
 · rename_i D2 HA d J aa
   have h:aK.p (.int .i64 (d.length:Int))=z:=h
   subst h
   obtain ⟨q,x6,⟨K,cV,es,fL,ed,gO,nW⟩,s6⟩:=ZZ hm aa af
   have hu:=On J
   have au:es.size=d.length:=by have:=gO.len;simpa using this
   refine ⟨.int .i64 (d.length:Int),q,by simp only [aB],s6,fun w' hw=>?_⟩
   simp only [bj,execOp,aC,resolve,invoke,List.map_toArray,List.map_cons,List.map_nil,x6]
   simp [go_sem,Builtin.len_,run_underlying hu,goInt,MapKept.run_getObj_map (hw.trans ed),au]
 · exact h.elim
def La (E:Env) (t j:Nat) (u:aK E.T.El):D (aK E.T.El):=match iV u,Gw E.P t j with
 | true,some (off,mv,_)=>match lay E.P mv with
   | some gE=>.of (kB (cellsOf u) off gE)
   | none=>.no
 | _,_=>.no
theorem ajl {F:Nat->Prop} {o:Oper} {t j:Nat} {x:Operand} {u z:aK E.T.El} (h:(La E t j u).out z) (aC:o.op= .field t x j) (af:aB E.T F w ρ bl u (a.eval x)):∃ r,iI E.P o a r/\aB E.T F w ρ bl z r:=by
 unfold La at h
 split at h
 · rename_i off mv sz qp ag
   split at h
   · rename_i gE au
     have h:=D.mT h
     obtain ⟨cM,f,bt,bu,cH,dp,lJ,ti⟩:=UB ag
     have aj:=DY qp af
     have hc:=lq af
     obtain ⟨b,n⟩:=gE
     have vI:=D7 au
     subst dp;subst cH
     cases b with
     | false=>
       simp only [kB] at h
       rw [c3] at h
       obtain ⟨v,J,aa⟩:=hc.at_ h
       have xX:(a.eval x).cells[f.offset]? =some v:=by rw [<-Array.getElem?_toList];exact J
       refine ⟨v,fun w'=>?_,aa⟩
       simp only [bj,execOp,aC,Instr.field,Sem.run_bind,run_underlying bt,Result.andThen_ok,bu]
       rw [aj]
       simp [asAgg,part,vI.1,xX]
     | true=>
       simp only [kB] at h
       split at h
       · rename_i ai
         simp only [Option.some.injEq] at h
         subst h
         have hle:=Nat.le_of_ble_eq_true ai
         have hlen:=hc.len
         refine ⟨.agg ⟨((a.eval x).cells.toList.drop f.offset).take n⟩,fun w'=>?_,?_⟩
         · simp only [bj,execOp,aC,Instr.field,Sem.run_bind,run_underlying bt,Result.andThen_ok,bu]
           rw [aj]
           simp only [asAgg,part,Sem.run_bind,Sem.run_pure,vI.1,vI.2,Result.andThen_ok,if_true]
           congr 2
           apply congrArg Value.agg
           rw [<-Array.toList_inj]
           simp [List.extract_eq_take_drop,Nat.add_sub_cancel_left,Value.cells]
         · simp only [aB]
           exact ⟨_,rfl,bc.take n (bc.drop _ hc)⟩
       · cases h
   · exact h.elim
 · exact h.elim
end
end bK
namespace bK
open Go Go.RowKit ay I
structure cI (El:Nat->Type) where
 bd:List (Nat × aK El)
 gs:List (Nat × Nat × Bool × aK El)
 dP:List (Nat × Bool)
def yj {El:Nat->Type}:List (Nat × Nat × Bool × aK El)->List (Nat × Bool)->Nat->Option (aK El)
 | [],_,_=>none
 | p::r,cur,t=>match Nat.beq p.1 t && vu cur p.2.1 p.2.2.1 with
   | true=>some p.2.2.2
   | false=>yj r cur t
def uf {El:Nat->Type}:List (Nat × Nat × Bool × aK El)->Nat->List (Nat × Nat × Bool × aK El)
 | [],_=>[]
 | p::r,d=>match Nat.beq p.1 d || Nat.beq p.2.1 d with
   | true=>uf r d
   | false=>p::uf r d
structure lj (T:b_) (F:Nat->Prop) (w:World) (ρ:List Value) (bl:List (aI T.El)) (n:cQ) (f:cI T.El) (a:Act):Prop where
 hr:oq T F w ρ bl n f.bd a
 gs:∀ p ∈ f.gs,a.tmps.getD p.2.1 undef= .bool p.2.2.1 ->aB T F w ρ bl p.2.2.2 (a.tmps.getD p.1 undef)
 dP:∀ p ∈ f.dP,a.tmps.getD p.1 undef= .bool p.2
section
variable {T:b_} {F F':Nat->Prop} {w w':World} {ρ ρ':List Value} {bl bl':List (aI T.El)} {n:cQ} {f:cI T.El} {a:Act}
theorem lj.later (aR:∀ k,F k->F' k/\w'.heap[k]? =w.heap[k]?) (au:lm T ρ ρ' bl bl') (h:lj T F w ρ bl n f a):lj T F' w' ρ' bl' n f a:=⟨h.hr.later aR au,fun p aP ai=>(h.gs p aP ai).later aR au,h.dP⟩
theorem Oh (h:lj T F w ρ bl n f a) {cur:List (Nat × Bool)} (hc:hK a cur):∀ {gs:List (Nat × Nat × Bool × aK T.El)} {t:Nat} {y:aK T.El},(∀ p ∈ gs,p ∈ f.gs)->yj gs cur t=some y->aB T F w ρ bl y (a.tmps.getD t undef)
 | [],_,_,_,aa=>by simp [yj] at aa
 | p::r,t,y,J,aa=>by
   simp only [yj] at aa
   split at aa
   · rename_i ai
     simp only [Bool.and_eq_true,Option.some.injEq] at ai aa
     subst aa
     have:=h.gs p (J p (by simp)) (Vb hc ai.2)
     rwa [Nat.eq_of_beq_eq_true ai.1] at this
   · exact Oh h hc (fun q a1=>J q (by simp [a1])) aa
theorem QI {d:Nat} {p:Nat × Nat × Bool × aK T.El}:∀ {gs:List (Nat × Nat × Bool × aK T.El)},p ∈ uf gs d->p ∈ gs/\p.1 ≠d/\p.2.1 ≠d
 | [],h=>by simp [uf] at h
 | q::r,h=>by
   simp only [uf] at h
   split at h
   · obtain ⟨J,aa⟩:=QI h;exact ⟨by simp [J],aa⟩
   · rename_i ai
     simp only [Bool.or_eq_false_iff] at ai
     rcases List.mem_cons.1 h with rfl | h
     · exact ⟨by simp,fun e=>by rw [e] at ai;simp at ai,fun e=>by rw [e] at ai;simp at ai⟩
     · obtain ⟨J,aa⟩:=QI h;exact ⟨by simp [J],aa⟩
theorem QH {α:Type} {d:Nat} {p:Nat × α}:∀ {l:List (Nat × α)},p ∈ k9 l d->p ∈ l/\p.1 ≠d
 | [],h=>by simp [k9] at h
 | q::r,h=>by
   simp only [k9] at h
   split at h
   · obtain ⟨J,aa⟩:=QH h;exact ⟨by simp [J],aa⟩
   · rename_i ai
     rcases List.mem_cons.1 h with rfl | h
     · exact ⟨by simp,fun e=>by rw [e] at ai;simp at ai⟩
     · obtain ⟨J,aa⟩:=QH h;exact ⟨by simp [J],aa⟩
def cI.put (f:cI T.El) (d:Nat) (y:aK T.El):cI T.El:=⟨(d,y)::k9 f.bd d,uf f.gs d,k9 f.dP d⟩
def cI.mV (f:cI T.El) (d j:Nat) (b:Bool) (y:aK T.El):cI T.El:=⟨k9 f.bd d,(d,j,b,y)::uf f.gs d,k9 f.dP d⟩
theorem lj.aaN {d:Nat} {v:Value} (h:lj T F w ρ bl n f a) (aO:Nat.blt d n.n=true):(∀ p ∈ uf f.gs d,(a.put (some d) v).tmps.getD p.2.1 undef= .bool p.2.2.1 ->aB T F w ρ bl p.2.2.2 ((a.put (some d) v).tmps.getD p.1 undef))/\ ∀ p ∈ k9 f.dP d,(a.put (some d) v).tmps.getD p.1 undef= .bool p.2 :=by
 have bL:d <a.tmps.size:=by rw [h.hr.size];exact Nat.le_of_ble_eq_true aO
 refine ⟨fun p aP ai=>?_,fun p aP=>?_⟩
 · obtain ⟨J,aa,az⟩:=QI aP
   rw [vj bL,if_neg (Ne.symm az)] at ai
   rw [vj bL,if_neg (Ne.symm aa)]
   exact h.gs p J ai
 · obtain ⟨J,aa⟩:=QH aP
   rw [vj bL,if_neg (Ne.symm aa)]
   exact h.dP p J
theorem lj.put {d:Nat} {y:aK T.El} {v:Value} (h:lj T F w ρ bl n f a) (aO:Nat.blt d n.n=true) (aj:aB T F w ρ bl y v):lj T F w ρ bl n (f.put d y) (a.put (some d) v):=by
 obtain ⟨J,aa⟩:=h.aaN (v:=v) aO
 refine ⟨⟨(h.hr.put aO aj).size,(h.hr.put aO aj).defers,fun t z al=>(h.hr.put aO aj).get t z ?_⟩,J,aa⟩
 simp only [cI.put,ep] at al ⊢
 split at al
 · exact al
 · exact (HG al).2
theorem lj.mV {d j:Nat} {b:Bool} {y:aK T.El} {v:Value} (h:lj T F w ρ bl n f a) (aO:Nat.blt d n.n=true) (cj:Nat.beq j d=false) (aj:a.tmps.getD j undef= .bool b->aB T F w ρ bl y v):lj T F w ρ bl n (f.mV d j b y) (a.put (some d) v):=by
 obtain ⟨J,aa⟩:=h.aaN (v:=v) aO
 have bL:d <a.tmps.size:=by rw [h.hr.size];exact Nat.le_of_ble_eq_true aO
 have alc:d≠j:=fun e=>by subst e;simp at cj
 refine ⟨h.hr.IL aO,fun p aP ai=>?_,aa⟩
 rcases List.mem_cons.1 aP with rfl | aP
 · simp only at ai ⊢
   rw [vj bL,if_neg alc] at ai
   rw [vj bL,if_pos rfl]
   exact aj ai
 · exact J p aP ai
end
def cX (E:Env) (bl:List (aI E.T.El)) (f:cI E.T.El) (cur:List (Nat × Bool)):Operand->Option (aK E.T.El)
 | .const v=>some (.p v)
 | .global g=>ep E.gm g
 | .func g=>some (.f (.func g) [])
 | .tmp t=>match ep f.bd t with
   | some y=>some (nm bl y)
   | none=>match yj f.gs cur t with
     | some y=>some (nm bl y)
     | none=>match yj f.gs f.dP t with
       | some y=>some (nm bl y)
       | none=>none
def n5 (E:Env) (bl:List (aI E.T.El)) (f:cI E.T.El) (cur:List (Nat × Bool)):List Operand->Option (List (aK E.T.El))
 | []=>some []
 | x::r=>match cX E bl f cur x,n5 E bl f cur r with
   | some y,some ys=>some (y::ys)
   | _,_=>none
def Es (E:Env) (bl:List (aI E.T.El)) (f:cI E.T.El) (cur:List (Nat × Bool)):Option Operand->Option (Option (aK E.T.El))
 | none=>some none
 | some x=>match cX E bl f cur x with
   | some y=>some (some y)
   | none=>none
def yr (E:Env) (bl:List (aI E.T.El)) (f:cI E.T.El) (cur:List (Nat × Bool)):List (Nat × Operand)->Option (List (Nat × aK E.T.El))
 | []=>some []
 | (i,x)::r=>match cX E bl f cur x,yr E bl f cur r with
   | some y,some ys=>some ((i,y)::ys)
   | _,_=>none
structure R (E:Env) (W:World) (aD:List Nat) (X:Nat->Prop) (n:cQ) (f:cI E.T.El) (bl:List (aI E.T.El)) (ρ:List Value) (a:Act) (w:World):Prop where
 mem:Mem E.T W aD X bl ρ w
 fW:lj E.T (bs X bl ρ w) w ρ bl n f a
 gm:∀ g y,ep E.gm g=some y->aB E.T (bs X bl ρ w) w ρ bl y (.pointer (some ⟨g,0,none⟩))
section
variable {E:Env} {W w w':World} {aD:List Nat} {X:Nat->Prop} {n:cQ} {f:cI E.T.El} {bl bl':List (aI E.T.El)} {ρ ρ':List Value} {a:Act} {cur:List (Nat × Bool)}
theorem R.to (h:R E W aD X n f bl ρ a w) (aL:To X bl bl' ρ ρ' w w') (hm:Mem E.T W aD X bl' ρ' w'):R E W aD X n f bl' ρ' a w':=⟨hm,h.fW.later aL.F aL.L,fun g y aA=>aL.v (h.gm g y aA)⟩
theorem R.put {d:Nat} {y:aK E.T.El} {v:Value} (h:R E W aD X n f bl ρ a w) (aO:Nat.blt d n.n=true) (aj:aB E.T (bs X bl ρ w) w ρ bl y v):R E W aD X n (f.put d y) bl ρ (a.put (some d) v) w:=⟨h.mem,h.fW.put aO aj,h.gm⟩
theorem S2 {a:Act}:∀ {l:List (Nat × Bool)},(∀ p ∈ l,a.tmps.getD p.1 undef= .bool p.2)->hK a l
 | [],_=>trivial
 | p::r,h=>⟨h p (by simp),S2 fun q a1=>h q (by simp [a1])⟩
theorem c9 (h:R E W aD X n f bl ρ a w) (hc:hK a cur) {x:Operand} {y:aK E.T.El} (af:cX E bl f cur x=some y):aB E.T (bs X bl ρ w) w ρ bl y (a.eval x):=by
 cases x with
 | const v=>simp only [cX,Option.some.injEq] at af;subst af;simp only [aB];rfl
 | global g=>exact h.gm g y af
 | func g=>simp only [cX,Option.some.injEq] at af;subst af;simp only [aB];exact ⟨[],rfl,by simp [bc]⟩
 | tmp t=>
   simp only [cX] at af
   split at af
   · rename_i z al
     simp only [Option.some.injEq] at af
     subst af
     exact H9 h.mem (h.fW.hr.get t z al)
   · split at af
     · rename_i z al
       simp only [Option.some.injEq] at af
       subst af
       exact H9 h.mem (Oh h.fW hc (fun p aP=>aP) al)
     · split at af
       · rename_i z al
         simp only [Option.some.injEq] at af
         subst af
         exact H9 h.mem (Oh h.fW (S2 h.fW.dP) (fun p aP=>aP) al)
       · cases af
theorem yt (h:R E W aD X n f bl ρ a w) (hc:hK a cur):∀ {xs:List Operand} {ys:List (aK E.T.El)},n5 E bl f cur xs=some ys->bc E.T (bs X bl ρ w) w ρ bl ys (xs.map a.eval)
 | [],ys,af=>by simp only [n5,Option.some.injEq] at af;subst af;simp [bc]
 | x::r,ys,af=>by
   simp only [n5] at af
   split at af
   · rename_i y en J aa
     simp only [Option.some.injEq] at af
     subst af
     simp only [List.map_cons,bc]
     exact ⟨_,_,rfl,c9 h hc J,yt h hc aa⟩
   · cases af
theorem aao (h:R E W aD X n f bl ρ a w) (hc:hK a cur) {x:Option Operand} {y:Option (aK E.T.El)} (af:Es E bl f cur x=some y):u3 E (bs X bl ρ w) w ρ bl a x y:=by
 cases x with
 | none=>simp only [Es,Option.some.injEq] at af;subst af;trivial
 | some x=>
   simp only [Es] at af
   split at af
   · rename_i z al
     simp only [Option.some.injEq] at af
     subst af
     exact c9 h hc al
   · cases af
theorem OZ (h:R E W aD X n f bl ρ a w) (hc:hK a cur):∀ {xs:List (Nat × Operand)} {ys:List (Nat × aK E.T.El)},yr E bl f cur xs=some ys->nk E.T (bs X bl ρ w) w ρ bl ys (xs.map fun p=>(p.1,a.eval p.2))
 | [],ys,af=>by simp only [yr,Option.some.injEq] at af;subst af;simp [nk]
 | (i,x)::r,ys,af=>by
   simp only [yr] at af
   split at af
   · rename_i y en J aa
     simp only [Option.some.injEq] at af
     subst af
     simp only [List.map_cons,nk]
     exact ⟨_,_,rfl,c9 h hc J,OZ h hc aa⟩
   · cases af
end
def Lb (E:Env) (bl:List (aI E.T.El)) (f:cI E.T.El) (cur:List (Nat × Bool)) (c x y:Operand):D (aK E.T.El):=
 match cX E bl f cur c with
 | some (.p (.bool b))=>match E.fL,c with
   | true,_=>match b with
     | true=>.of (cX E bl f cur x)
     | false=>.of (cX E bl f cur y)
   | false,.tmp jI=>match ep f.dP jI with
     | some true=>.of (cX E bl f cur x)
     | some false=>.of (cX E bl f cur y)
     | none=>match cX E bl f ((jI,true)::cur) x,cX E bl f ((jI,false)::cur) y with
       | some u,some v=>O' E x y b u v
       | _,_=>.no
   | false,_=>.no
 | _=>.no
def Rj:IntKind->Int->Option Int
 | .i64,m=>some (aX m)
 | .u64,m=>some (y1 m)
 | .u8,m=>some ((xw m).toNat:Int)
 | _,_=>none
def K3 (P:Program) (s d:Nat):Value->Option Value
 | .int k m=>match iX (P.underlying s),iX (P.underlying d) with
   | some (.i j),some (.i k')=>match j8 j k,Rj k' m with
     | true,some r=>some (.int k' r)
     | _,_=>none
   | _,_=>none
 | _=>none
def Ly (E:Env) (bl:List (aI E.T.El)) (t:Nat) (u:aK E.T.El) (hi mN:Option (aK E.T.El)):D (aK E.T.El):=match lY E.P t,y6 hi && y6 mN with
 | some (e,n),true=>match Nat.beq n (E.T.ty e).size with
   | true=>match u with
     | .s _ _=>.ok (.q e [])
     | .q _ _=>.ok (.q e [])
     | .r i g=>match Nat.beq g (ql bl i) with
       | true=>.ok (.q e [])
       | false=>.no
     | .p (.slice none 0 0)=>.ok (.p (.slice none 0 0))
     | .p (.slice (some _) 0 _)=>.ok (.q e [])
     | _=>.no
   | false=>.no
 | _,_=>.no
def OV {El:Nat->Type} (bl:List (aI El)):aK El->Bool
 | .s _ (_::_)=>true
 | .q _ (_::_)=>true
 | .p (.slice (some _) _ _)=>true
 | .r i g=>match nth bl i with
   | some (.r _ bN _ (_::_))=>Nat.beq g bN
   | _=>false
 | _=>false
def H8 {El:Nat->Type}:aK El->Bool
 | .p (.slice none _ _)=>true
 | _=>false
def K' (P:Program) {El:Nat->Type} (bl:List (aI El)) (t:Nat) (op:BinOp) (u v:aK El):Option Bool:=match iX (P.underlying t),H8 v,wC op true with
 | some .cz,true,some b=>match H8 u with
   | true=>some b
   | false=>match OV bl u with
     | true=>some (!b)
     | false=>none
 | _,_,_=>none
def xO (E:Env) (bl:List (aI E.T.El)) (f:cI E.T.El) (cur:List (Nat × Bool)):Op->D (aK E.T.El)
 | .move x=>.of (cX E bl f cur x)
 | .assign x=>.of (cX E bl f cur x)
 | .pick c x y=>Lb E bl f cur c x y
 | .binOp op t x y _=>match cX E bl f cur x,cX E bl f cur y with
   | some u,some v=>match K' E.P bl t op u v with
     | some b=>.ok (.p (.bool b))
     | none=>KY E t op (DZ y) u v
   | _,_=>.no
 | .unOp .not _ x=>match cX E bl f cur x with
   | some (.p (.bool p))=>.ok (.p (.bool (!p)))
   | _=>.no
 | .unOp .neg _ x=>match cX E bl f cur x with
   | some (.p (.int .i64 m))=>.ok (.p (.int .i64 (aX (0 - m))))
   | _=>.no
 | .convert s d x=>match cX E bl f cur x with
   | some (.p u)=>match K3 E.P s d u with
     | some r=>.ok (.p r)
     | none=>.no
   | _=>.no
 | .load t x=>match cX E bl f cur x with
   | some p=>xN E bl t p
   | none=>.no
 | .fieldAddr s x j=>match cX E bl f cur x,Gw E.P s j with
   | some p,some (off,_,_)=>match Im (ql bl) p with
     | true=>.of (Pf p off)
     | false=>.no
   | _,_=>.no
 | .nilCheck x=>match cX E bl f cur x with
   | some p=>match Hu p with
     | true=>.ok p
     | false=>.no
   | none=>.no
 | .extract x i=>match cX E bl f cur x with
   | some (.u l)=>.of (nth l i)
   | _=>.no
 | .makeFunc fn ⟨[]⟩ ⟨ys⟩=>match n5 E bl f cur ys with
   | some us=>.ok (.f fn us)
   | none=>.no
 | .makeFunc fn ⟨xs⟩ ⟨[]⟩=>match n5 E bl f cur xs with
   | some us=>.ok (.h fn us)
   | none=>.no
 | .makeInterface t x=>match cX E bl f cur x,E.P.concrete t with
   | some y,true=>.ok (.i t y)
   | _,_=>.no
 | .indexAddr t x y=>match cX E bl f cur x,cX E bl f cur y with
   | some u,some v=>K4 E bl t u v
   | _,_=>.no
 | .index t x y=>match cX E bl f cur x,cX E bl f cur y,iX (E.P.underlying t) with
   | some (.p (.string ⟨⟨p⟩⟩)),some (.p (.int .i64 j)),some .s=>.op (idx p j) fun b=>.ok (.p (.int .u8 (b.toNat:Int)))
   | _,_,_=>.no
 | .slice t x lo hi none=>match cX E bl f cur x,Es E bl f cur lo,Es E bl f cur hi with
   | some u,some a,some b=>K2 E bl t u a b
   | _,_,_=>.no
 | .slice t x none (some hi) (some mN)=>match cX E bl f cur x,cX E bl f cur hi,cX E bl f cur mN with
   | some u,some a,some b=>Ly E bl t u (some a) (some b)
   | _,_,_=>.no
 | .lookup t x y ok=>match cX E bl f cur x,cX E bl f cur y with
   | some u,some v=>K9 E bl t ok u v
   | _,_=>.no
 | .field t x j=>match cX E bl f cur x with
   | some u=>La E t j u
   | none=>.no
 | .build t ⟨ps⟩=>match yr E bl f cur ps with
   | some ys=>KZ E t ys
   | none=>.no
 | .call ⟨.builtin .len,⟨[x]⟩,⟨[t]⟩⟩=>match cX E bl f cur x with
   | some u=>match mapOf E.P t with
     | some _=>K8 E bl t u
     | none=>K7 E bl t u
   | none=>.no
 | .call ⟨.builtin .cap,⟨[x]⟩,⟨[t]⟩⟩=>match lY E.P t,cX E bl f cur x with
   | some _,some (.p (.slice _ _ c))=>.ok (.p (.int .i64 (c:Int)))
   | _,_=>.no
 | _=>.no
def mF (E:Env) (bl:List (aI E.T.El)) (f:cI E.T.El) (cur:List (Nat × Bool)):Op->Option (Option Nat)
 | .load _ x=>match cX E bl f cur x with
   | some p=>some (Ob p)
   | none=>none
 | .lookup _ x _ _=>match cX E bl f cur x with
   | some u=>some (wu u)
   | none=>none
 | .call ⟨.builtin .len,⟨[x]⟩,⟨[t]⟩⟩=>match mapOf E.P t,cX E bl f cur x with
   | some _,some u=>some (wu u)
   | _,_=>none
 | _=>none
def sD (P:Program) (o:Oper) (a:Act) (X:Nat->Prop) {El:Nat->Type} (bl:List (aI El)) (ρ:List Value) (w:World) (r:Value):Option (Option Nat)->Prop
 | none=>iI P o a r
 | some i=>∃ (q:Nat) (S:World->Prop),(match i with
  | none=>bs X bl ρ w q
  | some i=>∃ B h,bl[i]? =some B/\ρ[i]? =some h/\q ∈ bD B h)/\S w/\(∀ w',w'.heap[q]? =w.heap[q]? ->S w')/\ ∀ w',S w'->bj P o a w' r w'
theorem sD.now {P:Program} {o:Oper} {a:Act} {X:Nat->Prop} {El:Nat->Type} {bl:List (aI El)} {ρ:List Value} {w:World} {r:Value}:∀ {i:Option (Option Nat)},sD P o a X bl ρ w r i->bj P o a w r w
 | none,h=>h w
 | some _,⟨_,_,_,J,_,aa⟩=>aa w J
end bK
namespace bK
open Go Go.RowKit ay I
theorem mK {α:Type} {t:Nat} {y:α}:∀ {l:List (Nat × α)},ep l t=some y->(t,y) ∈ l
 | [],h=>by simp [ep] at h
 | p::r,h=>by
   simp only [ep] at h
   split at h
   · rename_i ai
     simp only [Option.some.injEq] at h
     subst h
     rw [<-Nat.eq_of_beq_eq_true ai]
     simp
   · exact List.mem_cons_of_mem _ (mK h)
section
variable {E:Env} {W w w':World} {aD:List Nat} {X:Nat->Prop} {n:cQ} {f:cI E.T.El} {bl:List (aI E.T.El)} {ρ:List Value} {a:Act} {cur:List (Nat × Bool)}
theorem ac2 {P:Program} {o:Oper} {A:Option Addr} {m c sz t e:Nat} {x hi mN:Operand} (aL:P.underlying t=some (.slice e)) (ar:∀ w,(Go.sizeOf e).run P w= .ok sz w) (aC:o.op= .slice t x none (some hi) (some mN)) (af:a.eval x= .slice A m c) (J:a.eval hi= .int .i64 0) (aa:a.eval mN= .int .i64 0) (w:World):bj P o a w (.slice A 0 0) w:=by
 have gp:=avy (P:=P) (w:=w) (A:=A) (m:=m) (c:=c) (j:=0) aL ar ⟨Int.le_refl _,by omega⟩
 simp only [bj,execOp,aC,af,Instr.sliceAt,Sem.run_bind,run_underlying aL,Result.andThen_ok,Option.map_none,Option.map_some,J,aa,gp]
 rfl
theorem as' {F:Nat->Prop} {t:Nat} (A:Option Addr):aB E.T F w ρ bl (.q t []) (.slice A 0 0):=by
 simp only [aB]
 exact ⟨⟨A,0,rfl,Nat.le_refl _,Nat.zero_le _,fun _=>rfl,fun h=>absurd rfl h⟩,A,rfl⟩
theorem QU {v:Value} (h:kZ v):∃ A m c,v= .slice A m c:=by
 cases v <;> simp [kZ] at h
 exact ⟨_,_,_,rfl⟩
theorem ajJ (hm:Mem E.T W aD X bl ρ w) {o:Oper} {t:Nat} {x hi mN:Operand} {u z I' Ja:aK E.T.El} (h:(Ly E bl t u (some I') (some Ja)).out z) (aC:o.op= .slice t x none (some hi) (some mN))
 (af:aB E.T (bs X bl ρ w) w ρ bl u (a.eval x)) (J:aB E.T (bs X bl ρ w) w ρ bl I' (a.eval hi)) (aa:aB E.T (bs X bl ρ w) w ρ bl Ja (a.eval mN)):∃ r,iI E.P o a r/\aB E.T (bs X bl ρ w) w ρ bl z r:=by
 unfold Ly at h
 split at h
 · rename_i e e8 ar ai
   simp only [Bool.and_eq_true] at ai
   have bt:a.eval hi= .int .i64 0 :=by
    rcases JT (lo:=some hi) (u:=some I') (show u3 E _ w ρ bl a (some hi) (some I') from J) ai.1 with ⟨e,_⟩ | ⟨_,e,k⟩
    · cases e
    · cases e;exact k
   have bu:a.eval mN= .int .i64 0 :=by
    rcases JT (lo:=some mN) (u:=some Ja) (show u3 E _ w ρ bl a (some mN) (some Ja) from aa) ai.2 with ⟨e,_⟩ | ⟨_,e,k⟩
    · cases e
    · cases e;exact k
   obtain ⟨hu,al⟩:=pD ar
   have fin:∀ {A:Option Addr} {m c:Nat},a.eval x= .slice A m c->(D.ok (aK.q e ([]:List (E.T.El e)))).out z-> ∃ r,iI E.P o a r/\aB E.T (bs X bl ρ w) w ρ bl z r:=fun {A m c} aj h=>by
    have h:aK.q e []=z:=h
    subst h
    exact ⟨_,fun w'=>ac2 hu al aC aj bt bu w',as' A⟩
   split at h
   · split at h
     · simp only [aB] at af;obtain ⟨A,c,aj⟩:=jH _ af;exact fin aj h
     · simp only [aB] at af;obtain ⟨A,aj⟩:=af.2;exact fin aj h
     · split at h
       · simp only [aB] at af;obtain ⟨A,m,c,aj⟩:=QU af.1;exact fin aj h
       · exact h.elim
     · have h:aK.p (.slice none 0 0)=z:=h
       subst h
       simp only [aB] at af
       exact ⟨_,fun w'=>ac2 hu al aC af bt bu w',by simp only [aB]⟩
     · simp only [aB] at af;exact fin af h
     · exact h.elim
   · exact h.elim
 · exact h.elim
theorem awA {k:IntKind} {m r:Int} (h:Rj k m=some r):k.wrap m=r:=by
 unfold Rj at h
 split at h <;> simp only [Option.some.injEq,reduceCtorEq] at h <;> subst h
 · exact rF m
 · rw [IntKind.wrap_u64];rfl
 · exact ab4 m
theorem aja {P:Program} {o:Oper} {s d:Nat} {x:Operand} {u r:Value} (h:K3 P s d u=some r) (aC:o.op= .convert s d x) (af:a.eval x=u):iI P o a r:=by
 unfold K3 at h
 split at h
 · rename_i k m
   split at h
   · rename_i j k' J aa
     split at h
     · rename_i hV az bp
       simp only [Option.some.injEq] at h
       subst h
       have:=lK az
       subst this
       rw [<-awA bp]
       exact fun w=>RE (qL J) (qL aa) aC af
     · cases h
   · cases h
 · cases h
theorem ams {y:Operand} (al:DZ y=true) (k:IntKind) (n:Int) (aS:a.eval y= .int k n):n≠ 0 :=by
 unfold DZ at al
 split at al
 · rename_i k' e8
   have:a.eval (.const (.int k' e8))= .int k' e8:=rfl
   rw [this] at aS
   injection aS with _ e
   subst e
   simpa using al
 · cases al
theorem ajm (h:R E W aD X n f bl ρ a w) (hc:hK a cur) {o:Oper} {c x y:Operand} {z:aK E.T.El} (al:(Lb E bl f cur c x y).out z) (aC:o.op= .pick c x y):∃ r,iI E.P o a r/\aB E.T (bs X bl ρ w) w ρ bl z r:=by
 unfold Lb at al
 split at al
 · rename_i b lA
   have iQ:=c9 h hc lA
   simp only [aB] at iQ
   have abX:b=true->(D.of (cX E bl f cur x)).out z-> ∃ r,iI E.P o a r/\aB E.T (bs X bl ρ w) w ρ bl z r:=fun ai al=>by
    have:=c9 h hc (D.mT al)
    exact ⟨_,fun w'=>JQ aC (by rw [iQ,ai]) rfl,this⟩
   have UA:b=false->(D.of (cX E bl f cur y)).out z-> ∃ r,iI E.P o a r/\aB E.T (bs X bl ρ w) w ρ bl z r:=fun ai al=>by
    have:=c9 h hc (D.mT al)
    exact ⟨_,fun w'=>JP aC (by rw [iQ,ai]) rfl,this⟩
   split at al
   · cases b with
     | true=>exact abX rfl al
     | false=>exact UA rfl al
   · rename_i jI _
     split at al
     · rename_i ak
       have:=h.fW.dP _ (mK ak)
       have e:a.eval (.tmp jI)= .bool true:=this
       rw [iQ] at e
       exact abX (by injection e) al
     · rename_i ak
       have:=h.fW.dP _ (mK ak)
       have e:a.eval (.tmp jI)= .bool false:=this
       rw [iQ] at e
       exact UA (by injection e) al
     · split at al
       · rename_i u v hu aj
         obtain ⟨r,J,aa⟩:=asI (a:=a) (x:=x) (y:=y) al (fun ai=>c9 h (show hK a ((jI,true)::cur) from ⟨by subst ai;exact iQ,hc⟩) hu) (fun ai=>c9 h (show hK a ((jI,false)::cur) from ⟨by subst ai;exact iQ,hc⟩) aj)
         exact ⟨r,fun w'=>ayO aC iQ J,aa⟩
       · exact al.elim
   · exact al.elim
 · exact al.elim
theorem ac' {P:Program} {o:Oper} {t t':TypeId} {x y:Operand} {A:Option Addr} {m c eA bO:Nat} {op:BinOp} {b:Bool} (aL:iX (P.underlying t)=some .cz) (ai:wC op A.isNone=some b) (aC:o.op= .binOp op t x y t') (af:a.eval x= .slice A m c) (hy:a.eval y= .slice none eA bO) (w:World):bj P o a w (.bool b) w:=by
 obtain ⟨e,hu⟩:=qL aL
 have h:∀ d:Nat,(Op.equalIn (d+ 1) t (.slice A m c) (.slice none eA bO)).run P w= .ok A.isNone w:=fun d=>by
  cases A <;> simp [Op.equalIn,run_underlying hu]
 cases op <;> simp only [wC,Option.some.injEq,reduceCtorEq] at ai <;> subst ai
 · have aa:(binOp .eql t (.slice A m c) (.slice none eA bO)).run P w= .ok (.bool A.isNone) w:=by
    simp only [binOp]
    simp [Op.equal,Op.maxDepth,h 9999]
   simp only [bj,execOp,aC,af,hy]
   simp [go_sem,aa]
 · have aa:(binOp .neq t (.slice A m c) (.slice none eA bO)).run P w= .ok (.bool (!A.isNone)) w:=by
    simp only [binOp]
    simp [Op.equal,Op.maxDepth,h 9999]
   simp only [bj,execOp,aC,af,hy]
   simp [go_sem,aa]
theorem abL {α:Type} {T:c8 α} {F:Nat->Prop} {v:Value} {d:α} {l:List α} (h:(ca T).rd F w [v] (d::l)):∃ g m c,v= .slice (some g) m c:=by
 obtain ⟨A,c,e,_,_,_,aa⟩:=h
 simp only [List.cons.injEq,and_true] at e
 subst e
 rw [(aa (by simp)).1]
 exact ⟨_,_,_,rfl⟩
theorem ao5 (hm:Mem E.T W aD X bl ρ w) {u:aK E.T.El} {v:Value} (h:OV bl u=true) (aj:aB E.T (bs X bl ρ w) w ρ bl u v):∃ g m c,v= .slice (some g) m c:=by
 unfold OV at h
 split at h
 · simp only [aB] at aj;exact abL aj
 · simp only [aB] at aj;exact abL aj.1
 · simp only [aB] at aj;exact ⟨_,_,_,aj⟩
 · split at h
   · rename_i t' bN k d l hi
     rw [c3] at hi
     simp only [aB] at aj
     obtain ⟨_,aO,bx,b6,b'⟩:=aj
     rw [hi] at b'
     obtain ⟨A,c,xs,ao,aq,a0⟩:=hm.ok _ _ _ hi bx
     rw [b' (Nat.eq_of_beq_eq_true h),ao]
     rw [ao] at aq
     obtain ⟨g,rfl⟩:=yG aq (by simp)
     exact ⟨_,_,_,rfl⟩
   · cases h
 · cases h
theorem Z' {F:Nat->Prop} {u:aK E.T.El} {v:Value} (h:H8 u=true) (aj:aB E.T F w ρ bl u v):∃ m c,v= .slice none m c:=by
 unfold H8 at h
 split at h
 · simp only [aB] at aj;exact ⟨_,_,aj⟩
 · cases h
theorem ajk (hm:Mem E.T W aD X bl ρ w) {t:Nat} {op:BinOp} {u v:aK E.T.El} {o:Oper} {x y:Operand} {t':TypeId} {b:Bool} (h:K' E.P bl t op u v=some b) (aC:o.op= .binOp op t x y t') (af:aB E.T (bs X bl ρ w) w ρ bl u (a.eval x)) (hy:aB E.T (bs X bl ρ w) w ρ bl v (a.eval y)):iI E.P o a (.bool b):=by
 unfold K' at h
 split at h
 · rename_i b0 J aa az
   obtain ⟨eA,bO,Us⟩:=Z' aa hy
   split at h
   · rename_i hu
     simp only [Option.some.injEq] at h
     subst h
     obtain ⟨m,c,ex⟩:=Z' hu af
     exact fun w'=>ac' (A:=none) J az aC ex Us w'
   · split at h
     · rename_i hu
       simp only [Option.some.injEq] at h
       subst h
       obtain ⟨g,m,c,ex⟩:=ao5 hm hu af
       refine fun w'=>ac' (A:=some g) J ?_ aC ex Us w'
       cases op <;> simp only [wC,Option.some.injEq,reduceCtorEq] at az ⊢ <;> subst az <;> rfl
     · cases h
 · cases h
theorem Uo (ah:aZ E) (h:R E W aD X n f bl ρ a w) (hc:hK a cur) {o:Oper} {op:Op} (aC:o.op=op) {z:aK E.T.El} (al:(xO E bl f cur op).out z):∃ r,aB E.T (bs X bl ρ w) w ρ bl z r/\sD E.P o a X bl ρ w r (mF E bl f cur op):=by
 have hl:(∃ r,iI E.P o a r/\aB E.T (bs X bl ρ w) w ρ bl z r)-> ∃ r,aB E.T (bs X bl ρ w) w ρ bl z r/\sD E.P o a X bl ρ w r none:=fun ⟨r,J,aa⟩=>⟨r,aa,J⟩
 unfold xO at al
 split at al
 · exact hl ⟨_,fun w'=>ac6 aC rfl,c9 h hc (D.mT al)⟩
 · exact hl ⟨_,fun w'=>acZ aC rfl,c9 h hc (D.mT al)⟩
 · exact hl (ajm h hc al aC)
 · split at al
   · rename_i u v J aa
     split at al
     · rename_i b ai
       have al:aK.p (.bool b)=z:=al
       subst al
       exact hl ⟨_,ajk h.mem ai aC (c9 h hc J) (c9 h hc aa),by simp only [aB]⟩
     · exact hl (ai7 ah al aC (fun ak=>ams ak) (c9 h hc J) (c9 h hc aa))
   · exact al.elim
 · split at al
   · rename_i p J
     have al:aK.p (.bool (!p))=z:=al
     subst al
     have:=c9 h hc J
     simp only [aB] at this
     exact hl ⟨_,fun w'=>ac8 aC this,by simp only [aB]⟩
   · exact al.elim
 · split at al
   · rename_i m J
     have al:aK.p (.int .i64 (aX (0 - m)))=z:=al
     subst al
     have:=c9 h hc J
     simp only [aB] at this
     exact hl ⟨_,fun w'=>ayM aC this,by simp only [aB]⟩
   · exact al.elim
 · split at al
   · rename_i u J
     split at al
     · rename_i r aa
       have al:aK.p r=z:=al
       subst al
       have:=c9 h hc J
       simp only [aB] at this
       exact hl ⟨_,aja aa aC this,by simp only [aB]⟩
     · exact al.elim
   · exact al.elim
 · rename_i t x
   split at al
   · rename_i p J
     obtain ⟨dR,us,v,bt,bu,cH,dp,lJ⟩:=ajh ah.tb h.mem (c9 h hc J) al
     refine ⟨v,bu,?_⟩
     simp only [mF,J,sD]
     refine ⟨dR.block,fun w'=>eW w' dR us,?_,cH,fun w' hw=>cH.law hw,fun w' hw=>dp o a x w' aC bt hw⟩
     revert lJ
     cases Ob p <;> exact fun h=>h
   · exact al.elim
 · split at al
   · rename_i p off mv sz J aa
     split at al
     · rename_i aP
       obtain ⟨g,q,ao,aq⟩:=asO aP (D.mT al) (c9 h hc J)
       obtain ⟨cM,fd,bt,bu,cH,dp,lJ,ti⟩:=UB aa
       subst cH
       exact hl ⟨_,fun w'=>ac1 bt bu lJ ti aC ao,aq⟩
     · exact al.elim
   · exact al.elim
 · split at al
   · rename_i p J
     split at al
     · rename_i aP
       have al:p=z:=al
       subst al
       have:=c9 h hc J
       obtain ⟨q,e⟩:=V9 aP this
       exact hl ⟨_,fun w'=>ac7 aC e,by rw [<-e];exact this⟩
     · exact al.elim
   · exact al.elim
 · split at al
   · rename_i l J
     have:=c9 h hc J
     simp only [aB] at this
     obtain ⟨vs,ao,aq⟩:=this
     have hi:=D.mT al
     rw [c3] at hi
     obtain ⟨v,a0,ch⟩:=aq.at_ hi
     exact hl ⟨v,fun w'=>ac0 (vs:=vs) aC ao a0,ch⟩
   · exact al.elim
 · split at al
   · rename_i us J
     have al:aK.f _ us=z:=al
     subst al
     have:=yt h hc J
     refine hl ⟨_,fun w'=>?_,by simp only [aB];exact ⟨_,rfl,this⟩⟩
     simp only [bj,execOp,aC,Instr.makeFunc]
     simp only [List.map_toArray,List.map_nil]
     rfl
   · exact al.elim
 · split at al
   · rename_i us J
     have al:aK.h _ us=z:=al
     subst al
     have:=yt h hc J
     refine hl ⟨_,fun w'=>?_,by simp only [aB];exact ⟨_,rfl,this⟩⟩
     simp only [bj,execOp,aC,Instr.makeFunc]
     simp only [List.map_toArray,List.map_nil]
     rfl
   · exact al.elim
 · split at al
   · rename_i y J aa
     have al:aK.i _ y=z:=al
     subst al
     exact hl ⟨_,fun w'=>ayB aa aC rfl,by simp only [aB];exact ⟨_,rfl,c9 h hc J⟩⟩
   · exact al.elim
 · split at al
   · rename_i u v J aa
     exact hl (ajc h.mem al aC (c9 h hc J) (c9 h hc aa))
   · exact al.elim
 · split at al
   · rename_i p j J aa az
     obtain ⟨b,bt,bu⟩:=al
     have bu:aK.p (.int .u8 (b.toNat:Int))=z:=bu
     subst bu
     have ao:=c9 h hc J
     have aq:=c9 h hc aa
     simp only [aB] at ao aq
     exact hl ⟨_,fun w'=>ayD (qL az) aC ao aq bt,by simp only [aB]⟩
   · exact al.elim
 · split at al
   · rename_i u lo hi J aa az
     exact hl (ai' h.mem al aC (c9 h hc J) (aao h hc aa) (aao h hc az))
   · exact al.elim
 · split at al
   · rename_i u lo hi J aa az
     exact hl (ajJ h.mem al aC (c9 h hc J) (c9 h hc aa) (c9 h hc az))
   · exact al.elim
 · split at al
   · rename_i u v J aa
     obtain ⟨r,q,ao,aq,a0⟩:=aji ah h.mem al aC (c9 h hc J) (c9 h hc aa)
     refine ⟨r,ao,?_⟩
     simp only [mF,J,sD]
     refine ⟨q,fun w'=>w'.heap[q]? =w.heap[q]?,?_,rfl,fun w' hw=>hw,a0⟩
     revert aq
     cases wu u <;> exact fun h=>h
   · exact al.elim
 · split at al
   · rename_i u J
     exact hl (ajl al aC (c9 h hc J))
   · exact al.elim
 · split at al
   · rename_i ys J
     obtain ⟨v,ao,aq⟩:=ai8 (OZ h hc J) al
     exact hl ⟨v,fun w'=>aq o a _ w' aC rfl,ao⟩
   · exact al.elim
 · split at al
   · rename_i x t _ u J
     split at al
     · rename_i HA ak
       obtain ⟨r,q,ao,aq,a0⟩:=ajf h.mem al aC (c9 h hc J)
       refine ⟨r,ao,?_⟩
       simp only [mF,ak,J,sD]
       refine ⟨q,fun w'=>w'.heap[q]? =w.heap[q]?,?_,rfl,fun w' hw=>hw,a0⟩
       revert aq
       cases wu u <;> exact fun h=>h
     · rename_i ak
       have:=hl (ajg h.mem al aC (c9 h hc J))
       simpa only [mF,ak] using this
   · exact al.elim
 · split at al
   · rename_i e A m c ar J
     have al:aK.p (.int .i64 (c:Int))=z:=al
     subst al
     have aj:=c9 h hc J
     simp only [aB] at aj
     exact hl ⟨_,fun w'=>ayt (pD (e:=e.1) (n:=e.2) ar).1 aC aj,by simp only [aB]⟩
   · exact al.elim
 · exact al.elim
end
end bK
namespace bK
open Go Go.RowKit ay I
structure dV (El:Nat->Type) where
 y:Option (aK El)
 bl:List (aI El)
 ws:List Nat
section
variable {T:b_} {W w w':World} {aD:List Nat} {X:Nat->Prop} {bl:List (aI T.El)} {ρ:List Value}
theorem Mem.aak (hm:Mem T W aD X bl ρ w) {k:Nat} (h:ma bl ρ k): ¬ X k:=fun af=>by
 have J:=hm.gZ k af
 rcases (hm.lt k h).2 with e | e
 · exact J.2 e
 · omega
theorem yK {α:Type} {l:List α} {i:Nat} {x:α} (h:l[i]? =some x):l.set i x=l:=by
 obtain ⟨J,aa⟩:=List.getElem?_eq_some_iff.1 h
 rw [<-aa,List.set_getElem_self]
theorem Mem.freeze (hm:Mem T W aD X bl ρ w) {i t g k:Nat} {l:List (T.El t)} (hi:bl[i]? =some (.r t g k l)):Mem T W aD X (bl.set i (.z t g k l)) ρ w/\To X bl (bl.set i (.z t g k l)) ρ ρ w w:=by
 obtain ⟨h,bG⟩:=hm.D9 hi
 have aL:=hm.yX (B':=aI.z t g k l) (h':=h) (w':=w) hi bG (bw.refl _ _) (fun q a1=>by simp [bD] at a1) ⟨fun _=>rfl,Nat.le_refl _,fun _=>⟨rfl,rfl,Nat.le_refl _,fun _=>rfl⟩⟩
 have ea:=hm.uy (B':=aI.z t g k l) (h':=h) (w':=w) hi bG (bw.refl _ _) (fun q a1=>by simp [bD] at a1) aL (by
  obtain ⟨A,c,xs,rfl,aa,az⟩:=hm.ok i _ _ hi bG
  obtain ⟨cJ,cm,dS,hq⟩:=aa.cap
  refine ⟨A,c,rfl,cJ,cm,dS,fun cj=>?_⟩
  have hb:0 <l.length:=List.length_pos_iff.2 cj
  obtain ⟨dH,rfl,qt,hc,iS⟩:=rr hb aa
  refine ⟨rfl,?_,xs,k7 _ aL.F az,by simpa [dO,f'] using hc⟩
  have iU:ma bl ρ dH:=⟨i,_,_,hi,bG,by simp only [bD];rw [iS];simp⟩
  refine ⟨by simpa [dO] using hm.aak iU,?_,by simpa [dO] using (hm.lt dH iU).1⟩
  rintro ⟨j,B,g',aJ,aA,ak⟩
  by_cases e:j=i
  · subst e
    rw [List.getElem?_set_self (List.getElem?_eq_some_iff.1 hi).1] at aJ
    cases aJ
    simp [bD] at ak
  · rw [List.getElem?_set_ne (Ne.symm e)] at aJ
    rw [List.getElem?_set_ne (Ne.symm e)] at aA
    exact hm.bA i j _ _ _ _ hi bG aJ aA (Ne.symm e) dH (by simp only [bD];rw [iS];simp) (by simpa [dO] using ak))
 rw [yK bG] at ea aL
 exact ⟨ea,aL⟩
end
def fg {El:Nat->Type} (bl:List (aI El)):aK El->List (aI El) × aK El
 | .r i g=>match nth bl i with
   | some (.r t bN k l)=>match Nat.beq g bN with
     | true=>(bl.set i (.z t bN k l),.s t l)
     | false=>(bl,.r i g)
   | some (.z t bN _ l)=>match Nat.beq g bN with
     | true=>(bl,.s t l)
     | false=>(bl,.r i g)
   | _=>(bl,.r i g)
 | .q t l=>(bl,.s t l)
 | y=>(bl,y)
def kM {El:Nat->Type}:List (aI El)->List (aK El)->List (aI El) × List (aK El)
 | bl,[]=>(bl,[])
 | bl,y::r=>match fg bl y with
   | (bl',fU)=>match kM bl' r with
     | (p8,hV)=>(p8,fU::hV)
section
variable {T:b_} {W w w':World} {aD:List Nat} {X:Nat->Prop} {bl:List (aI T.El)} {ρ:List Value}
theorem UI (hm:Mem T W aD X bl ρ w) {y fU:aK T.El} {bl':List (aI T.El)} {v:Value} (h:fg bl y=(bl',fU)) (aj:aB T (bs X bl ρ w) w ρ bl y v):Mem T W aD X bl' ρ w/\To X bl bl' ρ ρ w w/\aB T (bs X bl' ρ w) w ρ bl' fU v:=by
 have same:∀ {u:aK T.El},(bl,u)=(bl',fU)->aB T (bs X bl ρ w) w ρ bl u v->Mem T W aD X bl' ρ w/\To X bl bl' ρ ρ w w/\aB T (bs X bl' ρ w) w ρ bl' fU v:=fun {u} h hu=>by
  simp only [Prod.mk.injEq] at h
  obtain ⟨rfl,rfl⟩:=h
  exact ⟨hm,.refl,hu⟩
 unfold fg at h
 split at h
 · rename_i i g
   split at h
   · rename_i t bN k l hi
     rw [c3] at hi
     split at h
     · rename_i ai
       have ai:=Nat.eq_of_beq_eq_true ai
       subst ai
       simp only [Prod.mk.injEq] at h
       obtain ⟨rfl,rfl⟩:=h
       obtain ⟨J,aa⟩:=hm.freeze hi
       refine ⟨J,aa,?_⟩
       have gr:=aa.v aj
       simp only [aB] at gr ⊢
       obtain ⟨_,aO,bx,b6,b'⟩:=gr
       have cW:(bl.set i (aI.z t g k l))[i]? =some (aI.z t g k l):=List.getElem?_set_self (List.getElem?_eq_some_iff.1 hi).1
       rw [cW] at b'
       rw [b' rfl]
       exact J.ok i _ _ cW bx
     · exact same h aj
   · rename_i t bN k l hi
     rw [c3] at hi
     split at h
     · rename_i ai
       refine same h ?_
       have:=H9 hm aj
       simp only [nm,c3,hi,ai] at this
       exact this
     · exact same h aj
   · exact same h aj
 · refine same h ?_
   simp only [aB] at aj ⊢
   exact aj.1
 · exact same h aj
theorem GF:∀ {ys en:List (aK T.El)} {bl bl':List (aI T.El)} {vs:List Value},Mem T W aD X bl ρ w->kM bl ys=(bl',en)->bc T (bs X bl ρ w) w ρ bl ys vs->Mem T W aD X bl' ρ w/\To X bl bl' ρ ρ w w/\bc T (bs X bl' ρ w) w ρ bl' en vs
 | [],en,bl,bl',vs,hm,h,aj=>by
   simp only [kM,Prod.mk.injEq] at h
   obtain ⟨rfl,rfl⟩:=h
   exact ⟨hm,.refl,aj⟩
 | y::r,en,bl,bl',vs,hm,h,aj=>by
   simp only [bc] at aj
   obtain ⟨u,us,rfl,hu,aN⟩:=aj
   simp only [kM] at h
   cases J:fg bl y with
   | mk cg dq=>
     rw [J] at h
     cases aa:kM cg r with
     | mk eH ec=>
       rw [aa] at h
       simp only [Prod.mk.injEq] at h
       obtain ⟨rfl,rfl⟩:=h
       obtain ⟨ed,t1,v1⟩:=UI hm J hu
       obtain ⟨gO,t2,v2⟩:=GF ed aa (t1.vs aN)
       refine ⟨gO,t1.trans t2,?_⟩
       simp only [bc]
       exact ⟨u,us,rfl,t2.v v1,v2⟩
end
section
variable {E:Env} {W w w':World} {aD:List Nat} {X:Nat->Prop} {n:cQ} {f:cI E.T.El} {bl:List (aI E.T.El)} {ρ:List Value} {a:Act} {cur:List (Nat × Bool)}
def fJ (E:Env) (o:Oper) (a:Act) (W:World) (aD:List Nat) (X:Nat->Prop) (bl:List (aI E.T.El)) (ρ:List Value) (w:World) (e:dV E.T.El):Prop:=
 ∃ w' ρ',Mem E.T W aD X e.bl ρ' w'/\To X bl e.bl ρ ρ' w w'/\(∀ k,k <w.heap.size->(∀ i ∈ e.ws,∀ B h,bl[i]? =some B->ρ[i]? =some h->k ∉ bD B h)->w'.heap[k]? =w.heap[k]?) /\
   match e.y with
   | some y=>∃ v,bj E.P o a w v w'/\aB E.T (bs X e.bl ρ' w') w' ρ' e.bl y v
   | none=>nn E.P o a w w'
theorem Z_ (hm:Mem E.T W aD X bl ρ w) {o:Oper} {t:Nat} {cs:List (aK E.T.El)} {vs:List Value} (aN:bc E.T (bs X bl ρ w) w ρ bl cs vs) (hy:bj E.P o a w (.pointer (some ⟨w.heap.size,0,none⟩)) (w.alloc (.cells ⟨vs⟩ t))) :
 fJ E o a W aD X bl ρ w ⟨some (.b bl.length 0),bl++[.c t cs],[]⟩:=by
 have aj:bw [] w (w.alloc (.cells ⟨vs⟩ t)):=bw.alloc _ _ _
 have ag:∀ k ∈ bD (aI.c t cs) (.pointer (some ⟨w.heap.size,0,none⟩)),w.heap.size<=k/\k <(w.alloc (.cells ⟨vs⟩ t)).heap.size:=fun k ak=>by
  simp only [bD,ai,List.mem_singleton] at ak
  subst ak
  simp
 have aL:=hm.ux (B:=aI.c t cs) (h:=.pointer (some ⟨w.heap.size,0,none⟩)) aj ag
 refine ⟨_,ρ++[.pointer (some ⟨w.heap.size,0,none⟩)],hm.push aj ag ⟨_,vs,rfl,heap_alloc_new w _,aL.vs aN⟩,aL,fun k ak _=>aj.block k ak (by simp),_,hy,?_⟩
 simp only [aB]
 exact ⟨_,by rw [<-hm.len];simp,rfl⟩
theorem aoF (hm:Mem E.T W aD X bl ρ w) {o:Oper} {b1 vt:Nat} {K:hI (E.T.El b1)} (cV:(E.T.e b1).key=some K) (hy:bj E.P o a w (.map (some w.heap.size)) (w.alloc (.map #[] 0))) :
 fJ E o a W aD X bl ρ w ⟨some (.m bl.length),bl++[.m b1 vt []],[]⟩:=by
 have aj:bw [] w (w.alloc (.map #[] 0)):=bw.alloc _ _ _
 have ag:∀ k ∈ bD (aI.m b1 vt ([]:List (E.T.El b1 × E.T.El vt))) (.map (some w.heap.size)),w.heap.size<=k/\k <(w.alloc (.map #[] 0)).heap.size:=fun k ak=>by
  simp only [bD,ai,List.mem_singleton] at ak
  subst ak
  simp
 have aL:=hm.ux (B:=aI.m b1 vt ([]:List (E.T.El b1 × E.T.El vt))) (h:=.map (some w.heap.size)) aj ag
 refine ⟨_,ρ++[.map (some w.heap.size)],hm.push aj ag ⟨_,rfl,K,cV,#[],0,heap_alloc_new w _,trivial,by simp,by simp⟩,aL,fun k ak _=>aj.block k ak (by simp),_,hy,?_⟩
 simp only [aB]
 exact ⟨_,by rw [<-hm.len];simp,rfl⟩
def If {El:Nat->Type}:aK El->Bool
 | .a _=>false
 | .u _=>false
 | .p v=>v.oneCell'
 | _=>true
theorem asA {F:Nat->Prop} {y:aK E.T.El} {v:Value} (h:If y=true) (aj:aB E.T F w ρ bl y v):v.oneCell'=true:=by
 cases y with
 | p u=>simp only [aB] at aj;subst aj;exact h
 | a l=>simp [If] at h
 | b i o=>simp only [aB] at aj;obtain ⟨g,_,rfl⟩:=aj;rfl
 | x t d o=>simp only [aB] at aj;obtain ⟨_,_,_,rfl,_⟩:=aj;rfl
 | s t l=>simp only [aB] at aj;obtain ⟨A,c,e⟩:=jH _ aj;subst e;rfl
 | q t l=>simp only [aB] at aj;obtain ⟨_,A,rfl⟩:=aj;rfl
 | r i g=>simp only [aB] at aj;obtain ⟨A,m,c,rfl⟩:=QU aj.1;rfl
 | v i g lo hi=>simp only [aB] at aj;obtain ⟨A,m,c,rfl⟩:=QU aj.1;rfl
 | e i g k t j d o=>simp only [aB] at aj;have:=aj.1;cases v <;> simp [tg] at this;rfl
 | w i g o=>simp only [aB] at aj;have:=aj.1;cases v <;> simp [tg] at this;rfl
 | m i=>simp only [aB] at aj;obtain ⟨g,_,rfl⟩:=aj;rfl
 | n _ _ _=>simp only [aB] at aj;obtain ⟨g,rfl,_⟩:=aj;rfl
 | f fn cs=>simp only [aB] at aj;obtain ⟨g,rfl,_⟩:=aj;rfl
 | h fn us=>simp only [aB] at aj;obtain ⟨g,rfl,_⟩:=aj;rfl
 | u l=>simp [If] at h
 | i t z=>simp only [aB] at aj;obtain ⟨g,rfl,_⟩:=aj;rfl
def rl {El:Nat->Type}:List (aK El)->Bool
 | []=>true
 | y::r=>If y && rl r
theorem Ew {F:Nat->Prop}:∀ {ys:List (aK E.T.El)} {vs:List Value},rl ys=true->bc E.T F w ρ bl ys vs->vs.all (·.oneCell')=true
 | [],vs,_,aj=>by simp only [bc] at aj;subst aj;rfl
 | y::r,vs,h,aj=>by
   simp only [bc] at aj
   obtain ⟨u,us,rfl,J,aa⟩:=aj
   simp only [rl,Bool.and_eq_true] at h
   simp only [List.all_cons,Bool.and_eq_true]
   exact ⟨asA h.1 J,Ew h.2 aa⟩
theorem HE:∀ (l:List Value) (n:Nat) (cs:List Value),ay.lay l n cs=e0 l n cs
 | l,0,cs=>by cases l <;> rfl
 | [],n+ 1,cs=>rfl
 | u::l,n+ 1,cs=>by simp only [ay.lay,e0,HE l n cs]
def I4 {El:Nat->Type} (bl:List (aI El)) (i:Nat):Bool:=match nth bl i with
 | some (.r _ _ _ _)=>true
 | _=>false
def Lc (E:Env) (bl:List (aI E.T.El)) (t:Nat) (p y:aK E.T.El):D (dV E.T.El):=match lay E.P t,rl (cellsOf y) with
 | some (_,sz),true=>match Nat.beq (cellsOf y).length sz with
   | true=>match p with
     | .b i o=>match nth bl i with
       | some (.c ty cs)=>match Nat.ble (o+(cellsOf y).length) cs.length with
         | true=>.ok ⟨none,bl.set i (.c ty (e0 cs o (cellsOf y))),[i]⟩
         | false=>.no
       | _=>.no
     | .e i g k t' j d o=>match nth bl i with
       | some (.r t2 bN bu l)=>match Nat.beq g bN,Nat.beq k bu with
         | true,true=>match kM bl (e0 ((E.T.e t').cs d) o (cellsOf y)),Nat.decEq t' t2,Nat.ble (o+(cellsOf y).length) ((E.T.e t').cs d).length with
           | (bl',cs),.isTrue h,true=>match (E.T.e t').fY cs,I4 bl' i with
             | some d',true=>.ok ⟨none,bl'.set i (.r t2 bN (bu+ 1) (l.set j.toNat (h ▸ d'))),[i]⟩
             | _,_=>.no
           | _,_,_=>.no
         | true,false=>.op (idx l j) fun d=>match kM bl (e0 ((E.T.e t2).cs d) o (cellsOf y)),Nat.ble (o+(cellsOf y).length) ((E.T.e t2).cs d).length with
           | (bl',cs),true=>match (E.T.e t2).fY cs,I4 bl' i with
             | some d',true=>.ok ⟨none,bl'.set i (.r t2 bN (bu+ 1) (l.set j.toNat d')),[i]⟩
             | _,_=>.no
           | _,_=>.no
         | _,_=>.no
       | _=>.no
     | .w i g o=>match nth bl i with
       | some (.k t2 s2 bN cs)=>match Nat.beq g bN && Nat.ble (o+(cellsOf y).length) cs.length with
         | true=>.ok ⟨none,bl.set i (.k t2 s2 bN (e0 cs o (cellsOf y))),[i]⟩
         | false=>.no
       | _=>.no
     | _=>.no
   | false=>.no
 | _,_=>.no
theorem abt {o:Oper} {t g c m sz n q tb:Nat} {x y:Operand} {v:Value} {xs vs:List Value} (aj:v.cells=vs.toArray) (ar:∀ w,(Go.sizeOf t).run E.P w= .ok sz w) (au:Nat.beq vs.length sz=true) (J:vs.all (·.oneCell')=true)
 (aS:0 <n) (aN:rowIs w tb m (.slice (some ⟨g,0,none⟩) n c) n xs) (hle:q+vs.length<=xs.length) (aC:o.op= .store t x y) (af:a.eval x= .pointer (some ⟨g,q,none⟩)) (hy:a.eval y=v) :
 ∃ w',nn E.P o a w w'/\bw [g] w w'/\rowIs w' tb m (.slice (some ⟨g,0,none⟩) n c) n (e0 xs q vs):=by
 have hlen:=aN.len
 have aN:=aN.own aS
 rcases aN.2 with ⟨_,aY⟩ | ⟨g',cap,cur,ao,aq,a0,ch,dt,gk,jY⟩
 · omega
 · simp only [Value.slice.injEq,Option.some.injEq,Addr.mk.injEq,and_true,true_and] at ao
   obtain ⟨rfl,rfl⟩:=ao
   have iR:xs.length<=cur.toList.length:=by rw [<-jY,List.length_take];omega
   obtain ⟨w',bt,bu,cH⟩:=RG (tb:=tb) (cs:=cur.toList) aj ar au J (by simpa using Nat.le_trans hle (by simpa using iR)) (show (ba.dD g tb cur.toList).ok w by simpa [ba.dD] using a0) aC af hy
   refine ⟨w',bt,bu,.inl ⟨by rw [N_ hle,hlen],.inr ⟨g,c,⟨ay.lay cur.toList q vs⟩,rfl,aq,cH,ch,dt,?_,?_⟩⟩⟩
   · rw [HE]
     simp only [List.size_toArray]
     rw [N_ (by omega)]
     simpa using gk
   · rw [HE]
     simp only
     subst jY
     rw [q2 _ _ _ (by omega),q2 _ _ _ hle]
     have dj:n*m<=cur.toList.length:=by have:=gk;have gn:n*m<=c*m:=Nat.mul_le_mul_right m ch;simp;omega
     exact Q0 (by rw [hlen] at hle;exact hle) dj
theorem ZX {j n sz o k:Nat} (h:j <n) (aa:o+k<=sz):j*sz+o+k<=n*sz:=by
 have:(j+ 1)*sz<=n*sz:=Nat.mul_le_mul_right sz h
 rw [Nat.add_mul] at this
 omega
end
end bK
namespace bK
open Go Go.RowKit ay I
section
variable {E:Env} {W w w':World} {aD:List Nat} {X:Nat->Prop} {n:cQ} {f:cI E.T.El} {bl:List (aI E.T.El)} {ρ:List Value} {a:Act} {cur:List (Nat × Bool)}
theorem Hp (hm:Mem E.T W aD X bl ρ w) {o:Oper} {i:Nat} {B B':aI E.T.El} {h:Value} (hi:bl[i]? =some B) (bG:ρ[i]? =some h) (aj:bw (bD B h) w w') (ag:bD B' h=bD B h)
 (au:cd (some B')=cd (some B)/\hC E.T (some B')=hC E.T (some B)/\fF (some B)<=fF (some B')/\(fF (some B')=fF (some B)->oa (some B')=oa (some B))) (hy:nn E.P o a w w')
 (bZ:To X bl (bl.set i B') ρ ρ w w'->hp E.T (bs X (bl.set i B') ρ w') w' ρ (bl.set i B') B' h):fJ E o a W aD X bl ρ w ⟨none,bl.set i B',[i]⟩:=by
 have dC:∀ k ∈ bD B' h,k ∈ bD B h\/(w.heap.size<=k/\k <w'.heap.size):=fun k ak=>.inl (ag ▸ ak)
 have aL:=hm.yX (B':=B') (h':=h) hi bG aj dC ⟨fun _=>rfl,by rw [au.1];exact Nat.le_refl _,fun _=>⟨rfl,au.2⟩⟩
 have ar:=yK bG
 have ea:=hm.uy (B':=B') (h':=h) hi bG aj dC aL (by rw [ar] at aL ⊢;exact bZ aL)
 rw [ar] at ea aL
 exact ⟨w',ρ,ea,aL,fun k ak cS=>aj.block k ak (cS i (by simp) B h hi bG),hy⟩
theorem fJ.first {o:Oper} {bl':List (aI E.T.El)} {e:dV E.T.El} (aL:To X bl bl' ρ ρ w w) (ak:∀ i ∈ e.ws,∀ B' h k,bl'[i]? =some B'->ρ[i]? =some h->k ∈ bD B' h-> ∃ B,bl[i]? =some B/\k ∈ bD B h) (h:fJ E o a W aD X bl' ρ w e):fJ E o a W aD X bl ρ w e:=by
 obtain ⟨w',ρ',J,aa,az,bp⟩:=h
 refine ⟨w',ρ',J,aL.trans aa,fun k bL aS=>az k bL fun i hi B' g ai aA af=>?_,bp⟩
 obtain ⟨B,bt,bu⟩:=ak i hi B' g k ai aA af
 exact aS i hi B g bt aA bu
theorem ajH {bl bl':List (aI E.T.El)} {y fU:aK E.T.El} (h:fg bl y=(bl',fU)) (i:Nat):bl'[i]? =bl[i]? \/ ∃ t g k l,bl[i]? =some (.r t g k l)/\bl'[i]? =some (.z t g k l):=by
 unfold fg at h
 split at h
 · rename_i j g
   split at h
   · rename_i t bN k l aJ
     rw [c3] at aJ
     split at h
     · simp only [Prod.mk.injEq] at h
       obtain ⟨rfl,_⟩:=h
       by_cases e:i=j
       · subst e
         exact .inr ⟨t,bN,k,l,aJ,List.getElem?_set_self (List.getElem?_eq_some_iff.1 aJ).1⟩
       · exact .inl (List.getElem?_set_ne (Ne.symm e))
     · simp only [Prod.mk.injEq] at h;exact .inl (by rw [h.1])
   · split at h <;> (simp only [Prod.mk.injEq] at h;exact .inl (by rw [h.1]))
   · simp only [Prod.mk.injEq] at h;exact .inl (by rw [h.1])
 · simp only [Prod.mk.injEq] at h;exact .inl (by rw [h.1])
 · simp only [Prod.mk.injEq] at h;exact .inl (by rw [h.1])
theorem GD:∀ {ys en:List (aK E.T.El)} {bl bl':List (aI E.T.El)},kM bl ys=(bl',en)-> ∀ i:Nat,bl'[i]? =bl[i]? \/ ∃ t g k l,bl[i]? =some (.r t g k l)/\bl'[i]? =some (.z t g k l)
 | [],en,bl,bl',h,i=>by
   simp only [kM,Prod.mk.injEq] at h
   exact .inl (by rw [h.1])
 | y::r,en,bl,bl',h,i=>by
   simp only [kM] at h
   cases J:fg bl y with
   | mk cg dq=>
     rw [J] at h
     cases aa:kM cg r with
     | mk eH ec=>
       rw [aa] at h
       simp only [Prod.mk.injEq] at h
       obtain ⟨rfl,_⟩:=h
       rcases ajH J i with ao | ⟨t,g,k,l,ao,aq⟩
       · rcases GD aa i with a0 | ⟨t,g,k,l,a0,ch⟩
         · exact .inl (a0.trans ao)
         · exact .inr ⟨t,g,k,l,by rw [<-ao];exact a0,ch⟩
       · rcases GD aa i with a0 | ⟨t',g',k',l',a0,ch⟩
         · exact .inr ⟨t,g,k,l,ao,by rw [a0,aq]⟩
         · rw [aq] at a0;cases a0
theorem ZM {α:Type}:∀ (l:List α) (q:Nat) (cs b:List α),q+cs.length<=l.length->e0 (l++b) q cs=e0 l q cs++b
 | l,0,cs,b,h=>by
   have e:∀ m:List α,e0 m 0 cs=cs++m.drop cs.length:=fun m=>by cases m <;> rfl
   rw [e,e,List.drop_append_of_le_length (by simpa using h),List.append_assoc]
 | [],q+ 1,cs,b,h=>by simp at h
 | u::l,q+ 1,cs,b,h=>by
   simp only [List.cons_append,e0,ZM l q cs b (by simp at h;omega)]
theorem ZN {α:Type}:∀ (a l:List α) (q:Nat) (cs:List α),e0 (a++l) (a.length+q) cs=a++e0 l q cs
 | [],l,q,cs=>by simp
 | u::a,l,q,cs=>by
   have e:(u::a).length+q=(a.length+q)+ 1 :=by simp only [List.length_cons];omega
   rw [e]
   simp only [List.cons_append,e0,ZN a l q cs]
theorem anU {α:Type} {xs cs0 vs:List α} {p q:Nat} (h:(xs.drop p).take cs0.length=cs0) (aP:p+cs0.length<=xs.length) (a1:q+vs.length<=cs0.length):xs.take p++e0 cs0 q vs++xs.drop (p+cs0.length)=e0 xs (p+q) vs:=by
 have af:xs=xs.take p++(cs0++xs.drop (p+cs0.length)):=by
  have J:xs.drop p=cs0++xs.drop (p+cs0.length):=by
   rw [<-List.drop_drop]
   have:=(List.take_append_drop cs0.length (xs.drop p)).symm
   rwa [h] at this
  rw [<-J,List.take_append_drop]
 have au:(xs.take p).length=p:=by rw [List.length_take];omega
 have e:=ZN (xs.take p) (cs0++xs.drop (p+cs0.length)) q vs
 rw [<-af,au,ZM _ _ _ _ a1,<-List.append_assoc] at e
 exact e.symm
theorem TI (ah:aZ E) (hm:Mem E.T W aD X bl ρ w) {o:Oper} {t sz i t2 g k q:Nat} {l:List (E.T.El t2)} {x y:Operand} {j:Int} {d d':E.T.El t2} {u:aK E.T.El} {bl':List (aI E.T.El)} {cs:List (aK E.T.El)} {h:Value} {A:Option Addr} {c m:Nat}
 (ar:∀ w,(Go.sizeOf t).run E.P w= .ok sz w) (J:rl (cellsOf u)=true) (aa:Nat.beq (cellsOf u).length sz=true) (hi:bl[i]? =some (.r t2 g k l)) (bG:ρ[i]? =some h) (aO:idx l j=some d) (hle:q+(cellsOf u).length<=((E.T.e t2).cs d).length)
 (fB:I4 bl' i=true) (mz:kM bl (e0 ((E.T.e t2).cs d) q (cellsOf u))=(bl',cs)) (ha:(E.T.e t2).fY cs=some d') (dT:h= .slice A m c) (aC:o.op= .store t x y) (af:a.eval x= .pointer (some ⟨dO A,j.toNat*(E.T.ty t2).size+q,none⟩)) (hu:aB E.T (bs X bl ρ w) w ρ bl u (a.eval y)) :
 fJ E o a W aD X bl ρ w ⟨none,bl'.set i (.r t2 g (k+ 1) (l.set j.toNat d')),[i]⟩:=by
 have qv:=lq hu
 have vH:=qv.len
 obtain ⟨db,bO,xs,ao,aq,a0⟩:=hm.ok i _ _ hi bG
 rw [dT] at ao
 simp only [Value.slice.injEq] at ao
 obtain ⟨rfl,rfl,rfl⟩:=ao
 obtain ⟨V_,th,D0⟩:=jr aO
 obtain ⟨dH,rfl,qt,hc,iS⟩:=rr (by omega) (dT ▸ aq)
 obtain ⟨cs0,bx,b6⟩:=EL (E.T.ty t2) a0 D0
 have Vh:=ah.tb.cells (ρ:=ρ) (bl:=bl) bx
 have vG:=Vh.len
 have Hh:=(E.T.ty t2).len bx
 obtain ⟨ed,t1,v1⟩:=GF hm mz (Vh.lay qv hle)
 have fX:=ah.tb.fY _ _ _ ha _ _ _ _ _ v1
 have o5:=rq _ a0
 have hbound:j.toNat*(E.T.ty t2).size+q+(a.eval y).cells.toList.length<=xs.length:=by
  rw [o5,vH]
  exact ZX th (by omega)
 obtain ⟨w',bt,bu,cH⟩:=abt (E:=E) (a:=a) (v:=a.eval y) (vs:=(a.eval y).cells.toList) (by simp) ar (by rw [vH];exact aa) (Ew J qv) (show 0 <l.length by omega) (dT ▸ aq) hbound aC (by simpa [dO] using af) rfl
 have cW:bl'[i]? =some (.r t2 g k l):=by
  rcases GD mz i with e | ⟨t',g',k',l',ch,dt⟩
  · exact e.trans hi
  · unfold I4 at fB
    rw [c3,dt] at fB
    cases fB
 have aR:bD (aI.r t2 g k l) h= [dH]:=by subst dT;simpa [bD] using iS _
 have alY:=Hp (B':=aI.r t2 g (k+ 1) (l.set j.toNat d')) (w':=w') (o:=o) (a:=a) ed cW bG (by rw [aR];exact bu) rfl ⟨rfl,rfl,Nat.le_succ _,fun e=>absurd e (by simp [fF])⟩ bt (fun aL=>by
  refine ⟨some ⟨dH,0,none⟩,c,e0 xs (j.toNat*(E.T.ty t2).size+q) (a.eval y).cells.toList,by subst dT;simp,by subst dT;simpa using cH,?_⟩
  have alF:dF (E.T.ty t2) (bs X (bl'.set i (aI.r t2 g (k+ 1) (l.set j.toNat d'))) ρ w') w' xs l:=k7 _ (t1.trans aL).F a0
  have s7:=(E.T.ty t2).law aL.F fX
  have dj:=Qv s7 alF th
  have e:xs.take (j.toNat*(E.T.ty t2).size)++e0 cs0 q (a.eval y).cells.toList++xs.drop (j.toNat*(E.T.ty t2).size+(E.T.ty t2).size)=e0 xs (j.toNat*(E.T.ty t2).size+q) (a.eval y).cells.toList:=by
   have gn:=Ur b6
   have g_:=anU (q:=q) (vs:=(a.eval y).cells.toList) gn (by rw [Hh,o5];have:=ZX (o:=0) (k:=(E.T.ty t2).size) (sz:=(E.T.ty t2).size) th (by omega);omega) (by omega)
   rw [Hh] at g_
   exact g_
  rw [<-e]
  exact dj)
 refine fJ.first t1 (fun dk Dq B' g' ED ai aA a1=>?_) alY
 simp only [List.mem_singleton] at Dq
 subst Dq
 exact ⟨_,hi,by rw [cW] at ai;cases ai;exact a1⟩
end
end bK
namespace bK
open Go Go.RowKit ay I
section
variable {E:Env} {W w w':World} {aD:List Nat} {X:Nat->Prop} {n:cQ} {f:cI E.T.El} {bl:List (aI E.T.El)} {ρ:List Value} {a:Act} {cur:List (Nat × Bool)}
theorem ajn (ah:aZ E) (hm:Mem E.T W aD X bl ρ w) {o:Oper} {t:Nat} {x y:Operand} {p u:aK E.T.El} {e:dV E.T.El} (h:(Lc E bl t p u).out e) (aC:o.op= .store t x y)
 (aP:aB E.T (bs X bl ρ w) w ρ bl p (a.eval x)) (hu:aB E.T (bs X bl ρ w) w ρ bl u (a.eval y)):fJ E o a W aD X bl ρ w e:=by
 unfold Lc at h
 split at h
 · rename_i b sz au J
   have ar:=(D7 au).2
   split at h
   · rename_i aa
     have qv:=lq hu
     have vH:=qv.len
     split at h
     · rename_i i er
       split at h
       · rename_i ty cs hi
         rw [c3] at hi
         split at h
         · rename_i ai
           have h:(⟨none,bl.set i (.c ty (e0 cs er (cellsOf u))),[i]⟩:dV E.T.El)=e:=h
           subst h
           have ai:=Nat.le_of_ble_eq_true ai
           simp only [aB] at aP
           obtain ⟨g,aA,alE⟩:=aP
           obtain ⟨g',vs,ao,aq,a0⟩:=hm.ok i _ _ hi aA
           simp only [Value.pointer.injEq,Option.some.injEq,Addr.mk.injEq,and_true] at ao
           subst ao
           have alo:=a0.len
           obtain ⟨w',bt,bu,cH⟩:=RG (tb:=ty) (cs:=vs) (v:=a.eval y) (vs:=(a.eval y).cells.toList) (by simp) ar (by rw [vH];exact aa) (Ew J qv) (by rw [vH,alo];exact Nat.ble_eq_true_of_le ai) (show (ba.dD g ty vs).ok w from aq) aC alE rfl
           refine Hp (B':=aI.c ty (e0 cs er (cellsOf u))) hm hi aA (by simpa [bD,bK.ai] using bu) rfl ⟨rfl,rfl,Nat.le_refl _,fun _=>rfl⟩ bt (fun aL=>⟨g,ay.lay vs er (a.eval y).cells.toList,rfl,cH,?_⟩)
           rw [HE]
           exact (aL.vs a0).lay (aL.vs qv) ai
         · exact h.elim
       · exact h.elim
     · rename_i i g k t' j d er
       split at h
       · rename_i t2 bN bu l hi
         rw [c3] at hi
         simp only [aB] at aP
         obtain ⟨_,aO,bG,hle,aj⟩:=aP
         rw [hi] at aj
         split at h
         · rename_i aA ak
           have aA:=Nat.eq_of_beq_eq_true aA
           have ak:=Nat.eq_of_beq_eq_true ak
           subst aA;subst ak
           obtain ⟨⟨A,m,c,bx,b6,b',gQ⟩,as4,Ph⟩:=aj rfl
           obtain ⟨l',cN,ec⟩:=Ph rfl
           split at h
           · rename_i bl' cs azF mz azw Dc
             simp only [oa,Option.some.injEq,Sigma.mk.injEq] at cN
             obtain ⟨fE,cN⟩:=cN
             subst fE
             have cN:=eq_of_heq cN
             subst cN
             split at h
             · rename_i d' ha fB
               have h:(⟨none,bl'.set i (.r t2 g (k+ 1) (l.set j.toNat d')),[i]⟩:dV E.T.El)=e:=h
               subst h
               exact TI ah hm ar J aa hi bG ec (Nat.le_of_ble_eq_true Dc) fB mz ha bx aC (by simpa [hC] using gQ) hu
             · exact h.elim
           · exact h.elim
         · rename_i aA ak
           have aA:=Nat.eq_of_beq_eq_true aA
           subst aA
           obtain ⟨⟨A,m,c,bx,b6,b',gQ⟩,_⟩:=aj rfl
           obtain ⟨d1,ec,h⟩:=h
           dsimp only at h
           split at h
           · rename_i bl' cs mz Dc
             split at h
             · rename_i d' ha fB
               have h:(⟨none,bl'.set i (.r t2 g (bu+ 1) (l.set j.toNat d')),[i]⟩:dV E.T.El)=e:=h
               subst h
               exact TI ah hm ar J aa hi bG ec (Nat.le_of_ble_eq_true Dc) fB mz ha bx aC (by simpa [hC] using gQ) hu
             · exact h.elim
           · exact h.elim
         · exact h.elim
       · exact h.elim
     · rename_i i g er
       split at h
       · rename_i t2 s2 bN cs hi
         rw [c3] at hi
         split at h
         · rename_i ai
           simp only [Bool.and_eq_true] at ai
           have h:(⟨none,bl.set i (.k t2 s2 bN (e0 cs er (cellsOf u))),[i]⟩:dV E.T.El)=e:=h
           subst h
           simp only [aB] at aP
           obtain ⟨_,aO,bG,hle,aj⟩:=aP
           rw [hi] at aj
           have aA:=Nat.eq_of_beq_eq_true ai.1
           subst aA
           obtain ⟨A,m,c,bx,b6,b'⟩:=aj rfl
           obtain ⟨db,eA,bO,xs,ao,aq,a0⟩:=hm.ok i _ _ hi bG
           rw [ao] at bx
           simp only [Value.slice.injEq] at bx
           obtain ⟨rfl,rfl,rfl⟩:=bx
           subst ao
           have Vf:=Nat.le_of_ble_eq_true ai.2
           have alp:=a0.len
           obtain ⟨dH,rfl,qt,hc,iS⟩:=rr b6 aq
           obtain ⟨w',bt,bu,cH⟩:=abt (E:=E) (a:=a) (v:=a.eval y) (vs:=(a.eval y).cells.toList) (by simp) ar (by rw [vH];exact aa) (Ew J qv) b6 aq (by rw [vH,alp];exact Vf) aC (by simpa [dO] using b') rfl
           have aR:bD (aI.k t2 s2 g cs) (.slice (some ⟨dH,0,none⟩) eA bO)= [dH]:=by simpa [bD] using iS _
           exact Hp (B':=aI.k t2 s2 g (e0 cs er (cellsOf u))) hm hi bG (by rw [aR];exact bu) rfl ⟨rfl,rfl,Nat.le_refl _,fun _=>rfl⟩ bt (fun aL=>⟨_,_,_,_,rfl,cH,(aL.vs a0).lay (aL.vs qv) Vf⟩)
         · exact h.elim
       · exact h.elim
     · exact h.elim
   · exact h.elim
 · exact h.elim
theorem TN {F:Nat->Prop} {b1 vt:Nat} {K:hI (E.T.El b1)} {k:E.T.El b1} {v:E.T.El vt} {u:Value} (hu:u5 E.T F w vt v u):∀ {es:List MapEntry} {d:List (E.T.El b1 × E.T.El vt)} {p:Nat},iu E.T F w K es d->hS K d k=some p->iu E.T F w K (es.modify p fun e=>{ e with key:=K.enc k,val:=u }) (pd K d k v)
 | [],[],_,_,aP=>by simp [hS,lP] at aP
 | [],_::_,_,h,_=>h.elim
 | _::_,[],_,h,_=>h.elim
 | e::es,q::d,p,h,aP=>by
   obtain ⟨J,aa,az⟩:=h
   by_cases a1:q.1 =k
   · simp only [hS,lP,if_pos a1,Option.some.injEq] at aP
     subst aP
     simp only [pd,hT,if_pos a1,List.modify_zero_cons]
     exact ⟨rfl,hu,az⟩
   · simp only [hS,lP,if_neg a1,Option.map_eq_some_iff] at aP
     obtain ⟨pv,s5,rfl⟩:=aP
     simp only [pd,hT,if_neg a1,List.modify_succ_cons]
     exact ⟨J,aa,TN hu az s5⟩
theorem TM {F:Nat->Prop} {b1 vt:Nat} {K:hI (E.T.El b1)} {k:E.T.El b1} {v:E.T.El vt} {u:Value} {c:Nat} (hu:u5 E.T F w vt v u):∀ {es:List MapEntry} {d:List (E.T.El b1 × E.T.El vt)},iu E.T F w K es d->hS K d k=none->iu E.T F w K (es++[{ key:=K.enc k,val:=u,born:=c }]) (pd K d k v)
 | [],[],_,_=>⟨rfl,hu,trivial⟩
 | [],_::_,h,_=>h.elim
 | _::_,[],h,_=>h.elim
 | e::es,q::d,h,aP=>by
   obtain ⟨J,aa,az⟩:=h
   by_cases a1:q.1 =k
   · simp [hS,lP,if_pos a1] at aP
   · simp only [hS,lP,if_neg a1,Option.map_eq_none_iff] at aP
     simp only [pd,hT,if_neg a1,List.cons_append]
     exact ⟨J,aa,TM hu az aP⟩
theorem TL {F:Nat->Prop} {b1 vt:Nat} {K:hI (E.T.El b1)} {k:E.T.El b1}:∀ {es:List MapEntry} {d:List (E.T.El b1 × E.T.El vt)} {p:Nat},iu E.T F w K es d->hS K d k=some p-> ∃ e,es[p]? =some e/\e.key=K.enc k
 | [],[],_,_,aP=>by simp [hS,lP] at aP
 | [],_::_,_,h,_=>h.elim
 | _::_,[],_,h,_=>h.elim
 | e::es,q::d,p,h,aP=>by
   obtain ⟨J,aa,az⟩:=h
   by_cases a1:q.1 =k
   · simp only [hS,lP,if_pos a1,Option.some.injEq] at aP
     subst aP
     exact ⟨e,rfl,by rw [J,a1]⟩
   · simp only [hS,lP,if_neg a1,Option.map_eq_some_iff] at aP
     obtain ⟨pv,s5,rfl⟩:=aP
     simpa using TL az s5
def Gr (E:Env) (bl:List (aI E.T.El)) (t:Nat) (u k v:aK E.T.El):D (dV E.T.El):=match u,mapOf E.P t with
 | .m i,some (D2,_)=>match nth bl i with
   | some (.m b1 vt d)=>match (E.T.e b1).key with
     | some K=>match kM bl (cellsOf v) with
       | (bl',cs)=>match F_ (E.P.underlying D2) K.desc,(E.T.e b1).fY (cellsOf k),(E.T.e vt).fY cs,(match iV k with | true=>(E.T.e b1).agg | false=>!(E.T.e b1).agg) && (match iV v with | true=>(E.T.e vt).agg | false=>!(E.T.e vt).agg) with
         | true,some key,some val,true=>.ok ⟨none,bl'.set i (.m b1 vt (pd K d key val)),[i]⟩
         | _,_,_,_=>.no
     | none=>.no
   | _=>.no
 | _,_=>.no
theorem Un (ah:aZ E) (hm:Mem E.T W aD X bl ρ w) {o:Oper} {t:Nat} {x y z:Operand} {u k v:aK E.T.El} {e:dV E.T.El} (h:(Gr E bl t u k v).out e) (aC:o.op= .mapUpdate t x y z\/o.op= .insert t x y z)
 (af:aB E.T (bs X bl ρ w) w ρ bl u (a.eval x)) (hy:aB E.T (bs X bl ρ w) w ρ bl k (a.eval y)) (al:aB E.T (bs X bl ρ w) w ρ bl v (a.eval z)):fJ E o a W aD X bl ρ w e:=by
 unfold Gr at h
 split at h
 · rename_i i D2 azT als
   split at h
   · rename_i b1 vt d hi
     rw [c3] at hi
     split at h
     · rename_i K cV
       split at h
       rename_i bl' cs mz
       split at h
       · rename_i key val aO M7 qG qp
         have h:(⟨none,bl'.set i (.m b1 vt (pd K d key val)),[i]⟩:dV E.T.El)=e:=h
         subst h
         simp only [Bool.and_eq_true] at qp
         simp only [aB] at af
         obtain ⟨r,aN,ib⟩:=af
         have Dy:a.eval y=K.enc key:=by
          have ao:=ah.tb.fY _ _ _ M7 _ _ _ _ _ (lq hy)
          exact (Km hy qp.1).trans (ah.tb.key _ _ cV _ _ _ _ ao)
         obtain ⟨ed,t1,v1⟩:=GF hm mz (lq al)
         have fX:=ah.tb.fY _ _ _ qG _ _ _ _ _ v1
         have cW:bl'[i]? =some (.m b1 vt d):=by
          rcases GD mz i with e | ⟨t',g',k',l',ch,dt⟩
          · exact e.trans hi
          · rw [hi] at ch;cases ch
         have VR:u5 E.T (bs X bl' ρ w) w vt val (a.eval z):=⟨_,fX,Km al qp.2⟩
         obtain ⟨hV,ao,adm,C_,es,clock,bx,b6,b',gQ⟩:=ed.ok i _ _ cW aN
         simp only [Value.map.injEq,Option.some.injEq] at ao
         subst ao
         rw [cV] at C_
         cases C_
         have hu:=On als
         have qC:=S6 aO
         have bL:r <w.heap.size:=(Array.getElem?_eq_some_iff.1 bx).1
         have iC:∀ er:Obj,bw [r] w { w with heap:=w.heap.setIfInBounds r er }:=fun er=>⟨rfl,rfl,rfl,by simp,fun q _ aS=>by
          show (w.heap.setIfInBounds r er)[q]? =_
          rw [Array.getElem?_setIfInBounds,if_neg (fun e=>aS (by simp [e]))]⟩
         refine fJ.first t1 (fun dk Dq B' g' ED ai aA a1=>?_) ?_
         · simp only [List.mem_singleton] at Dq
           subst Dq
           rw [cW] at ai
           cases ai
           exact ⟨_,hi,a1⟩
         have fin:∀ (vi:Array MapEntry) (bO:Nat),nn E.P o a w { w with heap:=w.heap.setIfInBounds r (.map vi bO) } ->iu E.T (bs X bl' ρ w) w K vi.toList (pd K d key val)->(vi.toList.map (·.born)).Pairwise (· < ·)->(∀ e ∈ vi.toList,e.born <bO) ->
          fJ E o a W aD X bl' ρ w ⟨none,bl'.set i (.m b1 vt (pd K d key val)),[i]⟩:=fun vi bO Ny J aa az=>by
          refine Hp (B':=aI.m b1 vt (pd K d key val)) (w':={ w with heap:=w.heap.setIfInBounds r (.map vi bO) }) ed cW aN (by simpa [bD,bK.ai] using iC _) rfl ⟨rfl,rfl,Nat.le_refl _,fun _=>rfl⟩ Ny (fun aL=>⟨r,rfl,K,cV,vi,bO,by simp [bL],J.law aL.F,aa,az⟩)
         rcases QL (vt:=vt) key qC b6 w with ⟨f1,f2,f3⟩ | ⟨p,acY,y0,f1,f2,f3,f4⟩
         · refine fin (es.push { key:=K.enc key,val:=a.eval z,born:=clock }) (clock+ 1) ?_ ?_ ?_ ?_
           · rcases aC with aC | aC <;>
             · simp only [nn,execOp,aC,ib,Dy,Instr.mapUpdate,Sem.run_bind,run_underlying hu,Result.andThen_ok,MapKept.run_getObj_map bx,@jg.check _ K.dec K.nN E.P w false D2 key qC,f3,MapKept.run_setObj_map _ bx]
               rfl
           · simpa using TM VR b6 f2
           · simp only [Array.toList_push,List.map_append,List.map_cons,List.map_nil,List.pairwise_append]
             refine ⟨b',by simp,fun b ai c hc=>?_⟩
             obtain ⟨e,he,rfl⟩:=List.mem_map.1 ai
             simp only [List.mem_singleton] at hc
             subst hc
             exact gQ e he
           · intro e he
             simp only [Array.toList_push,List.mem_append,List.mem_singleton] at he
             rcases he with he | rfl
             · exact Nat.lt_succ_of_lt (gQ e he)
             · exact Nat.lt_succ_self _
         · obtain ⟨e,he,akT⟩:=TL (k:=key) b6 f2
           have akQ:es[p]? =some e:=by simpa using he
           have Vg:((es.modify p fun e=>{ e with key:=K.enc key,val:=a.eval z }).toList.map (·.born))=es.toList.map (·.born):=by
            rw [Array.toList_modify]
            apply List.ext_getElem?
            intro i
            simp only [List.getElem?_map,List.getElem?_modify]
            cases hi:es.toList[i]? with
            | none=>simp
            | some e'=>by_cases G9:p=i <;> simp [G9]
           refine fin (es.modify p fun e=>{ e with key:=K.enc key,val:=a.eval z }) clock ?_ ?_ ?_ ?_
           · have M8:(Instr.keyThatStays e.key (K.enc key)).run E.P w= .ok (K.enc key) w:=by
              rw [akT];simp only [Instr.keyThatStays,@jg.bits _ K.dec K.nN,if_true];rfl
             rcases aC with aC | aC <;>
             · simp only [nn,execOp,aC,ib,Dy,Instr.mapUpdate,Sem.run_bind,run_underlying hu,Result.andThen_ok,MapKept.run_getObj_map bx,@jg.check _ K.dec K.nN E.P w false D2 key qC,f4,akQ,Option.map_some,Option.getD_some,M8,MapKept.run_setObj_map _ bx]
               rfl
           · rw [Array.toList_modify];exact TN VR b6 f2
           · rw [Vg];exact b'
           · intro ao akR
             have:ao.born ∈ es.toList.map (·.born):=by rw [<-Vg];exact List.mem_map.2 ⟨ao,akR,rfl⟩
             obtain ⟨aq,akS,heq⟩:=List.mem_map.1 this
             rw [<-heq];exact gQ aq akS
       · exact h.elim
     · exact h.elim
   · exact h.elim
 · exact h.elim
end
end bK
namespace bK
open Go Go.RowKit ay I
section
variable {P:Program} {w w':World}
def xp (w:World) (sz m:Nat) (A:Option Addr) (news:List Value):Prop:=(m= 0 /\news= [])\/ ∃ dR,A=some dR/\news.length=m*sz/\(∀ j u,news[j]? =some u->w.cell? (dR.add j)=some u)/\ ∀ u ∈ news,u.oneCell'=true
theorem avw {t ty e:TypeId} {i:TypeInfo} (aL:P.underlying t=some (.slice e)) (hi:P.info? e=some i) (A dr:Option Addr) (n c cm:Nat) (hle:n<=c):(Builtin.append_ #[t,t] ty #[.slice A n c,.slice dr 0 cm]).run P w= .ok (.slice A n c) w:=by
 cases A <;> cases dr <;> simp [Builtin.append_,run_underlying aL,Go.sizeOf,typeInfo,hi,Builtin.lenOf,Builtin.firstCells,hle,storeCells,loadCells,loadCellsFrom]
theorem rowIs.short {t sz n c k:Nat} {A:Option Addr} {xs:List Value} (e:rowIs w t sz (.slice A n c) n xs) (ak:k<=n):rowIs w t sz (.slice A k c) k (xs.take (k*sz)):=by
 have au:=e.len
 have M8:k*sz<=n*sz:=Nat.mul_le_mul_right sz ak
 rcases e with e | ⟨rfl,rfl,db,e⟩
 · rcases e.2 with ⟨J,aY⟩ | ⟨g,cap,cur,J,aa,az,bp,dj,gn,g_⟩
   · simp only [Value.slice.injEq] at J
     obtain ⟨rfl,rfl,rfl⟩:=J
     have:k= 0 :=by omega
     subst this
     exact .inl ⟨by simp,.inl ⟨rfl,rfl⟩⟩
   · simp only [Value.slice.injEq] at J
     obtain ⟨rfl,_,rfl⟩:=J
     refine .inl ⟨by rw [List.length_take];omega,.inr ⟨g,c,cur,rfl,aa,az,by omega,dj,gn,?_⟩⟩
     rw [<-g_,List.take_take,Nat.min_eq_left M8]
 · have:k= 0 :=by omega
   subst this
   simp only [Value.slice.injEq] at e
   obtain ⟨rfl,_,rfl⟩:=e
   exact .inr ⟨rfl,by simp,A,rfl⟩
theorem Sf {t ty e:TypeId} {i:TypeInfo} {z:Value} {bytes sz:Nat} (aL:P.underlying t=some (.slice e)) (hi:P.info? e=some i) (al:i.zero=some z) (ej:i.size=sz) (kR:i.bytes=bytes) (NB:z.cells.size=sz) (hb:0 <sz)
 {A dr:Option Addr} {n c m cm:Nat} {xs news:List Value} (aN:rowIs w e sz (.slice A n c) n xs) (ar:xp w sz m dr news) (xY:n+m<=maxLen) (ai:(n+m)*bytes<= 140737488355328) :
 ∃ db bO w',(Builtin.append_ #[t,t] ty #[.slice A n c,.slice dr m cm]).run P w= .ok (.slice db (n+m) bO) w'/\rowIs w' e sz (.slice db (n+m) bO) (n+m) (xs++news)/\bw (bK.ai (.slice A n c)) w w'/\ ∀ k ∈ bK.ai (.slice db (n+m) bO),k ∈ bK.ai (.slice A n c)\/(w.heap.size<=k/\k <w'.heap.size):=by
 have x0:=aN.cap
 rcases Nat.eq_zero_or_pos m with aY | hm
 · subst aY
   have aS:news= []:=by
    rcases ar with ⟨_,h⟩ | ⟨_,_,h,_⟩
    · exact h
    · exact List.eq_nil_of_length_eq_zero (by simpa using h)
   subst aS
   exact ⟨A,c,w,avw aL hi A dr n c cm x0.1,by simpa using aN,bw.refl _ _,fun k ak=>.inl ak⟩
 · obtain ⟨dR,rfl,au,hv,vL⟩:∃ dR,dr=some dR/\news.length=m*sz/\(∀ j u,news[j]? =some u->w.cell? (dR.add j)=some u)/\ ∀ u ∈ news,u.oneCell'=true:=by
    rcases ar with ⟨h,_⟩ | h
    · omega
    · exact h
   have grow:∀ {eT:Value} {w':World} {b:Nat},w'.ownsRow b e sz eT (n+m) (xs++news)-> ∃ g cap cur,eT= .slice (some ⟨g,0,none⟩) (n+m) cap/\b<=g/\w'.heap[g]? =some (.cells cur e (0,0))/\n+m<=cap:=fun {eT w' b} h=>by
    rcases h.2 with ⟨_,aY⟩ | ⟨g,cap,cur,J,aa,az,bp,_⟩
    · omega
    · exact ⟨g,cap,cur,J,aa,az,bp⟩
   have Sl:∀ {eT:Value} {w':World} {b:Nat},w'.ownsRow b e sz eT (n+m) (xs++news)->w'.ownsRow 0 e sz eT (n+m) (xs++news):=fun {eT w' b} h=>⟨h.1,h.2.imp id fun ⟨g,cap,cur,bx,_,b'⟩=>⟨g,cap,cur,bx,Nat.zero_le _,b'⟩⟩
   rcases Nat.eq_zero_or_pos c with hc | hc
   · subst hc
     have aS:n= 0 :=by omega
     subst aS
     have af:xs= []:=List.eq_nil_of_length_eq_zero (by rw [aN.len];simp)
     subst af
     have oR:bK.ai (.slice A 0 0)= []:=by cases A <;> rfl
     rw [oR]
     cases A with
     | none=>
       obtain ⟨eT,w',bt,bu,cH,_,lJ⟩:=run_append_own_at (P:=P) w w.heap.size t ty e i z sz bytes aL hi al ej kR NB hb (.slice none 0 0) 0 [] ⟨by simp,.inl ⟨rfl,rfl⟩⟩ dR m cm news au hv vL xY ai (Nat.le_refl _)
       obtain ⟨g,cap,cur,rfl,b6,b',gQ⟩:=grow (b:=w.heap.size) bu
       refine ⟨_,_,w',bt,.inl (Sl bu),bw.grown cH,fun k ak=>?_⟩
       right
       have:k=g:=by
        cases cap with
        | zero=>simp [bK.ai] at ak
        | succ q=>simpa [bK.ai] using ak
       subst this
       exact ⟨b6,(Array.getElem?_eq_some_iff.1 b').1⟩
     | some b=>
       obtain ⟨eT,w',bt,bu,cH⟩:=run_append_arg_grows (P:=P) w t ty e i z sz bytes aL hi al ej kR NB hb b 0 0 [] (by simp) (fun j u hu=>by simp at hu) dR m cm news au hv (by omega) xY ai
       obtain ⟨g,cap,cur,rfl,b6,b',gQ⟩:=grow (b:=w.heap.size) bu
       refine ⟨_,_,w',bt,.inl (Sl bu),bw.grown cH,fun k ak=>?_⟩
       right
       have:k=g:=by
        cases cap with
        | zero=>simp [bK.ai] at ak
        | succ q=>simpa [bK.ai] using ak
       subst this
       exact ⟨b6,(Array.getElem?_eq_some_iff.1 b').1⟩
   · obtain ⟨sU,rfl⟩:=x0.2.2.2 hc
     have iU:w.ownsRow 0 e sz (.slice (some ⟨sU,0,none⟩) n c) n xs:=by
      rcases aN with h | ⟨_,_,db,h⟩
      · exact h
      · simp only [Value.slice.injEq] at h;omega
     obtain ⟨eT,w',bt,bu,cH,_,lJ⟩:=run_append_own_at (P:=P) w 0 t ty e i z sz bytes aL hi al ej kR NB hb (.slice (some ⟨sU,0,none⟩) n c) n xs iU dR m cm news au hv vL xY ai (Nat.zero_le _)
     obtain ⟨g,cap,cur,rfl,b6,b',gQ⟩:=grow (b:=0) bu
     have Vc:bK.ai (.slice (some ⟨sU,0,none⟩) n c)= [sU]:=by
      cases c with
      | zero=>omega
      | succ c=>rfl
     rw [Vc]
     refine ⟨_,_,w',bt,.inl bu,bw.grown cH,fun k ak=>?_⟩
     have:k=g:=by
      cases cap with
      | zero=>simp [bK.ai] at ak
      | succ q=>simpa [bK.ai] using ak
     subst this
     rcases lJ with dt | dt
     · left
       simp only [Value.ownBlock,Option.some.injEq] at dt
       simp [dt]
     · right
       simp only [Value.ownBlock,Option.some.injEq] at dt
       rw [dt]
       refine ⟨Nat.le_refl _,?_⟩
       rw [<-dt]
       exact (Array.getElem?_eq_some_iff.1 b').1
end
def oI (P:Program) (t:TypeId):Option (Nat × Nat × Nat):=match P.underlying t with
 | some (.slice e)=>match P.info? e with
   | some i=>match i.zero with
     | some z=>match Nat.beq z.cells.size i.size && Nat.blt 0 i.size && Nat.blt 0 i.bytes with
       | true=>some (e,i.size,i.bytes)
       | false=>none
     | none=>none
   | none=>none
 | _=>none
theorem sO {P:Program} {t e sz b8:Nat} (h:oI P t=some (e,sz,b8)):P.underlying t=some (.slice e)/\ ∃ i z,P.info? e=some i/\i.zero=some z/\i.size=sz/\i.bytes=b8/\z.cells.size=sz/\ 0 <sz/\ 0 <b8:=by
 unfold oI at h
 split at h
 · rename_i e' J
   split at h
   · rename_i i aa
     split at h
     · rename_i z az
       split at h
       · rename_i bp
         simp only [Option.some.injEq,Prod.mk.injEq] at h
         obtain ⟨rfl,rfl,rfl⟩:=h
         simp only [Bool.and_eq_true] at bp
         exact ⟨J,i,z,aa,az,rfl,rfl,Nat.eq_of_beq_eq_true bp.1.1,Nat.le_of_ble_eq_true bp.1.2,Nat.le_of_ble_eq_true bp.2⟩
       · cases h
     · cases h
   · cases h
 · cases h
def sK {El:Nat->Type} (t t':Nat) (l:List (El t)):Option (List (El t')):=match Nat.decEq t t' with
 | .isTrue h=>some (h ▸ l)
 | .isFalse _=>none
def x' {El:Nat->Type} {t:Nat} (e:cb El t):List (List (aK El))->Option (List (El t))
 | []=>some []
 | c::r=>match e.fY c,x' e r with
   | some d,some ds=>some (d::ds)
   | _,_=>none
def xD {α:Type} (sz:Nat):Nat->List α->List (List α)
 | 0,_=>[]
 | n+ 1,l=>l.take sz::xD sz n (l.drop sz)
def E4 (E:Env) (bl:List (aI E.T.El)) (t:Nat):aK E.T.El->Option (List (E.T.El t))
 | .s t' l=>sK t' t l
 | .q t' l=>sK t' t l
 | .p (.slice none 0 0)=>some []
 | .p (.slice (some _) 0 _)=>some []
 | .r j g=>match nth bl j with
   | some (.r t' bN _ l)=>match Nat.beq g bN with
     | true=>sK t' t l
     | false=>none
   | some (.k _ sz bN cs)=>match Nat.beq g bN && Nat.beq sz (E.T.ty t).size && Nat.blt 0 sz with
     | true=>x' (E.T.e t) (xD sz (cs.length / sz) cs)
     | false=>none
   | _=>none
 | .v j g lo hi=>match nth bl j with
   | some (.r t' bN _ l)=>match Nat.beq g bN with
     | true=>sK t' t ((l.take hi.toNat).drop lo.toNat)
     | false=>none
   | _=>none
 | _=>none
section
variable {E:Env} {W w w':World} {aD:List Nat} {X:Nat->Prop} {n:cQ} {f:cI E.T.El} {bl:List (aI E.T.El)} {ρ:List Value} {a:Act} {cur:List (Nat × Bool)}
theorem xB {El:Nat->Type} {t t':Nat} {l:List (El t)} {l':List (El t')} (h:sK t t' l=some l'):∃ e:t=t',e ▸ l=l':=by
 unfold sK at h
 split at h
 · rename_i e _
   simp only [Option.some.injEq] at h
   exact ⟨e,h⟩
 · cases h
theorem NG (ah:aZ E) {F:Nat->Prop} {t sz:Nat}:∀ (n:Nat) {cs:List (aK E.T.El)} {vs:List Value} {l:List (E.T.El t)},bc E.T F w ρ bl cs vs->vs.length=n*sz->x' (E.T.e t) (xD sz n cs)=some l->dF (E.T.ty t) F w vs l/\l.length=n
 | 0,cs,vs,l,h,au,hi=>by
   simp only [xD,x',Option.some.injEq] at hi
   subst hi
   exact ⟨List.eq_nil_of_length_eq_zero (by simpa using au),rfl⟩
 | n+ 1,cs,vs,l,h,au,hi=>by
   simp only [xD,x'] at hi
   split at hi
   · rename_i d ds J aa
     simp only [Option.some.injEq] at hi
     subst hi
     have bx:=ah.tb.fY _ _ _ J _ _ _ _ _ (bc.take sz h)
     obtain ⟨b6,b'⟩:=NG ah n (bc.drop sz h) (by rw [List.length_drop,au,Nat.add_mul];omega) aa
     exact ⟨⟨vs.take sz,vs.drop sz,(List.take_append_drop sz vs).symm,bx,b6⟩,by simp [b']⟩
   · cases hi
theorem abQ {F:Nat->Prop} {t:Nat} {l:List (E.T.El t)} {A:Option Addr} {c:Nat} (h:(ca (E.T.ty t)).rd F w [.slice A l.length c] l):∃ news,xp w (E.T.ty t).size l.length A news/\dF (E.T.ty t) F w news l:=by
 obtain ⟨db,bO,ao,aq,a0,ch,dt⟩:=h
 simp only [List.cons.injEq,Value.slice.injEq,and_true,true_and] at ao
 obtain ⟨rfl,rfl⟩:=ao
 by_cases au:l= []
 · subst au
   exact ⟨[],.inl ⟨rfl,rfl⟩,rfl⟩
 · obtain ⟨dz,bN,xs,fh,hL⟩:=dt au
   exact ⟨xs,.inr ⟨_,dz,rq _ fh,fun j u hu=>by rw [iK];exact hL j u hu,yC _ fh⟩,fh⟩
theorem QK {t sz n c:Nat} {A:Option Addr} {xs:List Value} (h:rowIs w t sz (.slice A n c) n xs) (J:∀ u ∈ xs,u.oneCell'=true):xp w sz n A xs:=by
 rcases Nat.eq_zero_or_pos n with aY | aY
 · subst aY
   exact .inl ⟨rfl,List.eq_nil_of_length_eq_zero (by rw [h.len];simp)⟩
 · obtain ⟨g,rfl,_,hc,_⟩:=rr aY h
   exact .inr ⟨_,rfl,h.len,fun j u hu=>by rw [iK];exact hc j u hu,J⟩
theorem abP (ah:aZ E) (hm:Mem E.T W aD X bl ρ w) {t:Nat} {y:aK E.T.El} {l:List (E.T.El t)} {v:Value} (h:E4 E bl t y=some l) (aj:aB E.T (bs X bl ρ w) w ρ bl y v) :
 ∃ A c news,v= .slice A l.length c/\xp w (E.T.ty t).size l.length A news/\dF (E.T.ty t) (bs X bl ρ w) w news l:=by
 unfold E4 at h
 split at h
 · obtain ⟨rfl,rfl⟩:=xB h
   simp only [aB] at aj
   obtain ⟨A,c,rfl⟩:=jH _ aj
   obtain ⟨news,J,aa⟩:=abQ aj
   exact ⟨A,c,news,rfl,J,aa⟩
 · obtain ⟨rfl,rfl⟩:=xB h
   simp only [aB] at aj
   obtain ⟨A,c,rfl⟩:=jH _ aj.1
   obtain ⟨news,J,aa⟩:=abQ aj.1
   exact ⟨A,c,news,rfl,J,aa⟩
 · simp only [Option.some.injEq] at h
   subst h
   simp only [aB] at aj
   exact ⟨none,0,[],aj,.inl ⟨rfl,rfl⟩,rfl⟩
 · simp only [Option.some.injEq] at h
   subst h
   simp only [aB] at aj
   exact ⟨_,_,[],aj,.inl ⟨rfl,rfl⟩,rfl⟩
 · rename_i j g
   split at h
   · rename_i t' bN k l' hi
     rw [c3] at hi
     split at h
     · rename_i ai
       obtain ⟨rfl,rfl⟩:=xB h
       simp only [aB] at aj
       obtain ⟨_,aO,bx,b6,b'⟩:=aj
       rw [hi] at b'
       obtain ⟨A,c,xs,ao,aq,a0⟩:=hm.ok j _ _ hi bx
       rw [b' (Nat.eq_of_beq_eq_true ai),ao]
       exact ⟨A,c,xs,rfl,QK (ao ▸ aq) (yC _ a0),a0⟩
     · cases h
   · rename_i t' sz bN cs hi
     rw [c3] at hi
     split at h
     · rename_i ai
       simp only [Bool.and_eq_true] at ai
       simp only [aB] at aj
       obtain ⟨_,aO,bx,b6,b'⟩:=aj
       rw [hi] at b'
       obtain ⟨A,m,c,xs,ao,aq,a0⟩:=hm.ok j _ _ hi bx
       have ej:=Nat.le_of_ble_eq_true ai.2
       have hlen:=a0.len
       have aa:=aq.len
       have a1:cs.length / sz=m:=by rw [<-hlen,aa];exact Nat.mul_div_cancel _ ej
       rw [a1] at h
       obtain ⟨cN,ec⟩:=NG ah m a0 aa h
       rw [b' (Nat.eq_of_beq_eq_true ai.1.1),ao,ec]
       have:=QK (ao ▸ aq) (yC _ cN)
       rw [Nat.eq_of_beq_eq_true ai.1.2] at this
       exact ⟨A,c,xs,rfl,this,cN⟩
     · cases h
   · cases h
 · rename_i j g lo cW
   split at h
   · rename_i t' bN k l' hi
     rw [c3] at hi
     split at h
     · rename_i ai
       obtain ⟨rfl,rfl⟩:=xB h
       simp only [aB] at aj
       obtain ⟨_,aO,bx,b6,b'⟩:=aj
       rw [hi] at b'
       obtain ⟨db,eA,bO,B,dn,o9,l1,cT,ib,GQ,bZ⟩:=b' (Nat.eq_of_beq_eq_true ai)
       obtain ⟨A,c,xs,ao,aq,a0⟩:=hm.ok j _ _ hi bx
       rw [ao] at dn aq
       simp only [Value.slice.injEq] at dn
       obtain ⟨rfl,rfl,rfl⟩:=dn
       have hlen:((l'.take cW.toNat).drop lo.toNat).length=cW.toNat - lo.toNat:=by rw [List.length_drop,List.length_take];omega
       refine ⟨B,c - lo.toNat,(xs.take (cW.toNat*(E.T.ty t').size)).drop (lo.toNat*(E.T.ty t').size),by rw [hlen];exact ib,?_,pz _ _ a0⟩
       have oU:=pz lo.toNat cW.toNat a0
       rcases Int.lt_or_le lo cW with bL | MU
       · right
         obtain ⟨dH,rfl⟩:=yG aq (by omega)
         obtain ⟨mw,Dn,_,hc,_⟩:=rr (by omega) aq
         cases Dn
         refine ⟨⟨dH,lo.toNat*(E.T.ty t').size,none⟩,by rw [bZ bL];simp [iK,hC],rq _ oU,fun q u hu=>?_,yC _ oU⟩
         rw [List.getElem?_drop,List.getElem?_take] at hu
         split at hu
         · rw [iK]
           have:=hc _ u hu
           simpa using this
         · cases hu
       · left
         have:cW.toNat - lo.toNat= 0 :=by omega
         have aY:((l'.take cW.toNat).drop lo.toNat)= []:=List.eq_nil_of_length_eq_zero (by rw [hlen];exact this)
         refine ⟨by rw [aY];rfl,?_⟩
         rw [aY] at oU
         exact oU
     · cases h
   · cases h
 · cases h
end
end bK
namespace bK
open Go Go.RowKit ay I
def I7 (E:Env) (bl:List (aI E.T.El)) (t:Nat):aK E.T.El->Option (Option (Nat × Nat) × List (E.T.El t))
 | .p (.slice none 0 0)=>some (none,[])
 | .q _ []=>some (none,[])
 | .r i g=>match nth bl i with
   | some (.r t' bN _ l)=>match Nat.beq g bN,sK t' t l with
     | true,some l'=>some (some (i,g),l')
     | _,_=>none
   | _=>none
 | .v i g (.ofNat 0) hi=>match nth bl i with
   | some (.r t' bN _ l)=>match Nat.beq g bN,sK t' t (l.take hi.toNat) with
     | true,some l'=>some (some (i,g),l')
     | _,_=>none
   | _=>none
 | _=>none
def uw (E:Env) (bl:List (aI E.T.El)) (e sz:Nat):aK E.T.El->Option (Option (Nat × Nat) × List (aK E.T.El))
 | .p (.slice none 0 0)=>some (none,[])
 | .q _ []=>some (none,[])
 | .r i g=>match nth bl i with
   | some (.k t' wR bN cs)=>match Nat.beq g bN && Nat.beq t' e && Nat.beq wR sz with
     | true=>some (some (i,g),cs)
     | false=>none
   | _=>none
 | _=>none
def KW (E:Env) (bl:List (aI E.T.El)) (t:Nat) (u v:aK E.T.El):D (dV E.T.El):=match oI E.P t with
 | some (e,sz,b8)=>match Nat.beq sz (E.T.ty e).size,I7 E bl e u,E4 E bl e v with
   | true,some (none,_),some m=>.op (cq b8 [] m) fun l=>.ok ⟨some (.r bl.length 0),bl++[.r e 0 0 l],[]⟩
   | true,some (some (i,g),b),some m=>.op (cq b8 b m) fun l=>.ok ⟨some (.r i (g+ 1)),bl.set i (.r e (g+ 1) 0 l),[i]⟩
   | _,_,_=>match uw E bl e sz u,(match uw E bl e sz v with
    | some (_,m)=>match rl m with
      | true=>some m
      | false=>none
    | none=>none) with
     | some (none,_),some m=>.op (cq b8 [] (List.replicate (m.length / sz) ())) fun _=>.ok ⟨some (.r bl.length 0),bl++[.k e sz 0 m],[]⟩
     | some (some (i,g),b),some m=>.op (cq b8 (List.replicate (b.length / sz) ()) (List.replicate (m.length / sz) ())) fun _=>.ok ⟨some (.r i (g+ 1)),bl.set i (.k e sz (g+ 1) (b++m)),[i]⟩
     | _,_=>.no
 | none=>.no
section
variable {E:Env} {W w w':World} {aD:List Nat} {X:Nat->Prop} {n:cQ} {f:cI E.T.El} {bl:List (aI E.T.El)} {ρ:List Value} {a:Act} {cur:List (Nat × Bool)}
def Kd (w:World) (bl:List (aI E.T.El)) (ρ:List Value) (e sz n:Nat) (v:Value) (xs:List Value):Option (Nat × Nat)->Prop
 | none=>∃ A,v= .slice A 0 0 /\n= 0 /\xs= []
 | some (i,g)=>∃ A c h B,v= .slice A n c/\rowIs w e sz v n xs/\bl[i]? =some B/\ρ[i]? =some h/\bD B h=bK.ai v/\kZ h/\cd (some B)=g
theorem abV (hm:Mem E.T W aD X bl ρ w) {e:Nat} {u:aK E.T.El} {v:Value} {p:Option (Nat × Nat)} {l:List (E.T.El e)} (h:I7 E bl e u=some (p,l)) (aj:aB E.T (bs X bl ρ w) w ρ bl u v) :
 ∃ xs,Kd (E:=E) w bl ρ e (E.T.ty e).size l.length v xs p/\dF (E.T.ty e) (bs X bl ρ w) w xs l:=by
 unfold I7 at h
 split at h
 · simp only [Option.some.injEq,Prod.mk.injEq] at h
   obtain ⟨rfl,rfl⟩:=h
   simp only [aB] at aj
   exact ⟨[],⟨none,aj,rfl,rfl⟩,rfl⟩
 · simp only [Option.some.injEq,Prod.mk.injEq] at h
   obtain ⟨rfl,rfl⟩:=h
   simp only [aB] at aj
   obtain ⟨A,dT⟩:=aj.2
   exact ⟨[],⟨A,dT,rfl,rfl⟩,rfl⟩
 · rename_i i g
   split at h
   · rename_i t' bN k l' hi
     rw [c3] at hi
     split at h
     · rename_i cT ai hc
       simp only [Option.some.injEq,Prod.mk.injEq] at h
       obtain ⟨rfl,rfl⟩:=h
       obtain ⟨rfl,rfl⟩:=xB hc
       have ai:=Nat.eq_of_beq_eq_true ai
       simp only [aB] at aj
       obtain ⟨_,aO,bx,b6,b'⟩:=aj
       rw [hi] at b'
       have a1:=b' ai
       obtain ⟨A,c,xs,ao,aq,a0⟩:=hm.ok i _ _ hi bx
       rw [a1]
       exact ⟨xs,⟨A,c,aO,_,ao,aq,hi,bx,rfl,by rw [ao];trivial,ai.symm⟩,a0⟩
     · cases h
   · cases h
 · rename_i i g cW
   split at h
   · rename_i t' bN k l' hi
     rw [c3] at hi
     split at h
     · rename_i cT ai hc
       simp only [Option.some.injEq,Prod.mk.injEq] at h
       obtain ⟨rfl,rfl⟩:=h
       obtain ⟨rfl,rfl⟩:=xB hc
       have ai:=Nat.eq_of_beq_eq_true ai
       simp only [aB] at aj
       obtain ⟨_,aO,bx,b6,b'⟩:=aj
       rw [hi] at b'
       obtain ⟨db,eA,bO,B,dn,o9,l1,cT,ib,GQ,_⟩:=b' ai
       obtain ⟨A,c,xs,ao,aq,a0⟩:=hm.ok i _ _ hi bx
       rw [ao] at dn aq
       simp only [Value.slice.injEq] at dn
       obtain ⟨rfl,rfl,rfl⟩:=dn
       have bZ:=GQ rfl
       subst bZ
       have hlen:(l'.take cW.toNat).length=cW.toNat:=by rw [List.length_take];omega
       have ch:=aq.short (k:=cW.toNat) (by omega)
       have dt:v= .slice B cW.toNat c:=by rw [ib];simp
       rw [dt]
       refine ⟨xs.take (cW.toNat*(E.T.ty t').size),⟨B,c,aO,_,by rw [hlen],by rw [hlen];exact ch,hi,bx,by rw [ao];cases B <;> cases c <;> rfl,by rw [ao];trivial,ai.symm⟩,?_⟩
       have:=pz 0 cW.toNat a0
       simpa using this
     · cases h
   · cases h
 · cases h
theorem Q6 (hm:Mem E.T W aD X bl ρ w) {e sz:Nat} {u:aK E.T.El} {v:Value} {p:Option (Nat × Nat)} {cs:List (aK E.T.El)} (ej:0 <sz) (h:uw E bl e sz u=some (p,cs)) (aj:aB E.T (bs X bl ρ w) w ρ bl u v) :
 ∃ xs,Kd (E:=E) w bl ρ e sz (cs.length / sz) v xs p/\bc E.T (bs X bl ρ w) w ρ bl cs xs:=by
 unfold uw at h
 split at h
 · simp only [Option.some.injEq,Prod.mk.injEq] at h
   obtain ⟨rfl,rfl⟩:=h
   simp only [aB] at aj
   exact ⟨[],⟨none,aj,by simp,rfl⟩,by simp [bc]⟩
 · simp only [Option.some.injEq,Prod.mk.injEq] at h
   obtain ⟨rfl,rfl⟩:=h
   simp only [aB] at aj
   obtain ⟨A,dT⟩:=aj.2
   exact ⟨[],⟨A,dT,by simp,rfl⟩,by simp [bc]⟩
 · rename_i i g
   split at h
   · rename_i t' wR bN ix hi
     rw [c3] at hi
     split at h
     · rename_i ai
       simp only [Bool.and_eq_true] at ai
       simp only [Option.some.injEq,Prod.mk.injEq] at h
       obtain ⟨rfl,rfl⟩:=h
       have cg:=Nat.eq_of_beq_eq_true ai.1.1
       have eH:=Nat.eq_of_beq_eq_true ai.1.2
       have h9:=Nat.eq_of_beq_eq_true ai.2
       subst eH;subst h9
       simp only [aB] at aj
       obtain ⟨_,aO,bx,b6,b'⟩:=aj
       rw [hi] at b'
       have a1:=b' cg
       obtain ⟨A,m,c,xs,ao,aq,a0⟩:=hm.ok i _ _ hi bx
       have hlen:=a0.len
       have aa:=aq.len
       have vM:ix.length / wR=m:=by rw [<-hlen,aa];exact Nat.mul_div_cancel _ ej
       rw [a1,vM]
       exact ⟨xs,⟨A,c,aO,_,ao,aq,hi,bx,rfl,by rw [ao];trivial,cg.symm⟩,a0⟩
     · cases h
   · cases h
 · cases h
theorem Sg (hm:Mem E.T W aD X bl ρ w) {o:Oper} {t e sz b8:Nat} {x y:Operand} {p:Option (Nat × Nat)} {n m:Nat} {xs news:List Value} {dr:Option Addr} {cm:Nat} (B':Nat->aI E.T.El) (he:oI E.P t=some (e,sz,b8)) (aC:o.op= .call { callee:=.builtin .append,args:=#[x,y],argTypes:=#[t,t] })
 (aL:Kd (E:=E) w bl ρ e sz n (a.eval x) xs p) (hy:a.eval y= .slice dr m cm) (ar:xp w sz m dr news) (ai:(n+m)*b8<= 140737488355328)
 (G7:∀ g,cd (some (B' g))=g) (G6:∀ g h,bD (B' g) h=bK.ai h)
 (bZ:∀ (bl':List (aI E.T.El)) (ρ':List Value) (w':World) (g:Nat) (db:Option Addr) (bO:Nat),To X bl bl' ρ ρ' w w'->rowIs w' e sz (.slice db (n+m) bO) (n+m) (xs++news)->hp E.T (bs X bl' ρ' w') w' ρ' bl' (B' g) (.slice db (n+m) bO)) :
 fJ E o a W aD X bl ρ w (match p with
  | none=>⟨some (.r bl.length 0),bl++[B' 0],[]⟩
  | some (i,g)=>⟨some (.r i (g+ 1)),bl.set i (B' (g+ 1)),[i]⟩):=by
 obtain ⟨hu,i0,z,hi,al,J,aa,az,bp,dj⟩:=sO he
 have xY:n+m<=maxLen:=by
  have gn:=Nat.le_mul_of_pos_right (n+m) dj
  simp only [maxLen]
  omega
 have lH:∀ {A:Option Addr} {c:Nat} {eT:Value} {w':World},a.eval x= .slice A n c->(Builtin.append_ #[t,t] o.type #[.slice A n c,.slice dr m cm]).run E.P w= .ok eT w'->bj E.P o a w eT w':=fun {A c eT w'} af gp=>by
  simp only [bj,execOp,aC,resolve,invoke,builtin,Sem.run_bind,Sem.run_pure,Result.andThen_ok,List.map_toArray,List.map_cons,List.map_nil,af,hy,gp]
 cases p with
 | none=>
   obtain ⟨A,af,rfl,rfl⟩:=aL
   obtain ⟨db,bO,w',bt,bu,cH,dp⟩:=Sf (w:=w) (ty:=o.type) hu hi al J aa az bp (show rowIs w e sz (.slice A 0 0) 0 [] from .inr ⟨rfl,rfl,A,rfl⟩) ar xY ai
   have oR:bK.ai (.slice A 0 0)= []:=by cases A <;> rfl
   rw [oR] at cH dp
   have ag:∀ k ∈ bD (B' 0) (.slice db (0 +m) bO),w.heap.size<=k/\k <w'.heap.size:=fun k ak=>by
    rw [G6] at ak
    rcases dp k ak with e | e
    · simp at e
    · exact e
   have fC:=hm.ux (B:=B' 0) (h:=.slice db (0 +m) bO) cH ag
   refine ⟨w',ρ++[.slice db (0 +m) bO],hm.push cH ag (bZ _ _ _ _ _ _ fC bu),fC,fun k ak _=>cH.block k ak (by simp),_,lH af bt,?_⟩
   simp only [aB]
   refine ⟨trivial,.slice db (0 +m) bO,by rw [<-hm.len];simp,Nat.zero_le _,fun _=>rfl⟩
 | some V0=>
   obtain ⟨i,g⟩:=V0
   obtain ⟨A,c,h,B,af,aN,vw,iD,iS,alS,aA⟩:=aL
   rw [af] at aN iS
   obtain ⟨db,bO,w',bt,bu,cH,dp⟩:=Sf (w:=w) (ty:=o.type) hu hi al J aa az bp aN ar xY ai
   rw [<-iS] at cH dp
   have ag:∀ k ∈ bD (B' (g+ 1)) (.slice db (n+m) bO),k ∈ bD B h\/(w.heap.size<=k/\k <w'.heap.size):=fun k ak=>dp k (by rw [G6] at ak;exact ak)
   have fC:=hm.yX (B':=B' (g+ 1)) (h':=.slice db (n+m) bO) vw iD cH ag ⟨fun aS=>absurd alS aS,by rw [G7,aA];omega,fun e=>by rw [G7,aA] at e;omega⟩
   refine ⟨w',ρ.set i (.slice db (n+m) bO),hm.uy vw iD cH ag fC (bZ _ _ _ _ _ _ fC bu),fC,fun k ak cS=>cH.block k ak (cS i (by simp) B h vw iD),_,lH af bt,?_⟩
   simp only [aB]
   have l1:=(List.getElem?_eq_some_iff.1 vw).1
   have cT:=(List.getElem?_eq_some_iff.1 iD).1
   refine ⟨trivial,_,List.getElem?_set_self cT,?_,fun _=>rfl⟩
   rw [List.getElem?_set_self l1,G7]
   exact Nat.le_refl _
theorem ai6 (ah:aZ E) (hm:Mem E.T W aD X bl ρ w) {o:Oper} {t:Nat} {x y:Operand} {u v:aK E.T.El} {r:dV E.T.El} (h:(KW E bl t u v).out r) (aC:o.op= .call { callee:=.builtin .append,args:=#[x,y],argTypes:=#[t,t] })
 (af:aB E.T (bs X bl ρ w) w ρ bl u (a.eval x)) (hy:aB E.T (bs X bl ρ w) w ρ bl v (a.eval y)):fJ E o a W aD X bl ρ w r:=by
 unfold KW at h
 split at h
 · rename_i e sz b8 he
   obtain ⟨_,_,_,_,_,_,_,_,hb,_⟩:=sO he
   have ab2:∀ {p:Option (Nat × Nat)} {b m l:List (E.T.El e)},Nat.beq sz (E.T.ty e).size=true->I7 E bl e u=some (p,b)->E4 E bl e v=some m->cq b8 b m=some l->fJ E o a W aD X bl ρ w (match p with
    | none=>⟨some (.r bl.length 0),bl++[.r e 0 0 l],[]⟩
    | some (i,g)=>⟨some (.r i (g+ 1)),bl.set i (.r e (g+ 1) 0 l),[i]⟩):=fun {p b m l} J aa az bp=>by
    have J:=Nat.eq_of_beq_eq_true J
    subst J
    obtain ⟨ai,rfl⟩:=FR bp
    obtain ⟨xs,bx,b6⟩:=abV hm aa af
    obtain ⟨dr,cm,news,cN,ec,ij⟩:=abP ah hm az hy
    have:=Sg (B':=fun g=>aI.r e g 0 (b++m)) hm he aC bx cN ec ai (fun _=>rfl) (fun _ _=>rfl) (fun bl' ρ' w' g db bO fC aN=>⟨db,bO,xs++news,by rw [List.length_append],by rw [List.length_append];exact aN,EK _ (k7 _ fC.F ij) (k7 _ fC.F b6)⟩)
    cases p <;> exact this
   have SM:∀ {p q:Option (Nat × Nat)} {b m:List (aK E.T.El)} {l:List Unit},uw E bl e sz u=some (p,b)->uw E bl e sz v=some (q,m)->rl m=true->cq b8 (List.replicate (b.length / sz) ()) (List.replicate (m.length / sz) ())=some l->fJ E o a W aD X bl ρ w (match p with
    | none=>⟨some (.r bl.length 0),bl++[.k e sz 0 (b++m)],[]⟩
    | some (i,g)=>⟨some (.r i (g+ 1)),bl.set i (.k e sz (g+ 1) (b++m)),[i]⟩):=fun {p q b m l} J aa Nj az=>by
    obtain ⟨ai,_⟩:=FR az
    simp only [List.length_replicate] at ai
    obtain ⟨xs,bx,b6⟩:=Q6 hm hb J af
    obtain ⟨ys,cN,ec⟩:=Q6 hm hb aa hy
    have Nq:∃ dr cm,a.eval y= .slice dr (m.length / sz) cm/\xp w sz (m.length / sz) dr ys:=by
     cases q with
     | none=>
       obtain ⟨A,ao,aq,rfl⟩:=cN
       rw [aq]
       exact ⟨A,0,ao,.inl ⟨rfl,rfl⟩⟩
     | some V0=>
       obtain ⟨A,c,h,B,ao,aq,_⟩:=cN
       rw [ao] at aq
       exact ⟨A,c,ao,QK aq (fun u hu=>List.all_eq_true.1 (Ew Nj ec) u hu)⟩
    obtain ⟨dr,cm,s1,s2⟩:=Nq
    have:=Sg (B':=fun g=>aI.k e sz g (b++m)) hm he aC bx s1 s2 ai (fun _=>rfl) (fun _ _=>rfl) (fun bl' ρ' w' g db bO fC aN=>⟨db,_,bO,xs++ys,rfl,aN,bc.cq (fC.vs b6) (fC.vs ec)⟩)
    cases p <;> exact this
   split at h
   · rename_i b m J aa az
     obtain ⟨l,bp,dj⟩:=h
     have dj:(⟨some (.r bl.length 0),bl++[.r e 0 0 l],[]⟩:dV E.T.El)=r:=dj
     subst dj
     have oR:b= []:=by
      obtain ⟨xs,⟨A,_,aq,_⟩,_⟩:=abV hm aa af
      exact List.eq_nil_of_length_eq_zero aq
     subst oR
     exact ab2 (p:=none) J aa az bp
   · rename_i i g b m J aa az
     obtain ⟨l,bp,dj⟩:=h
     have dj:(⟨some (.r i (g+ 1)),bl.set i (.r e (g+ 1) 0 l),[i]⟩:dV E.T.El)=r:=dj
     subst dj
     exact ab2 J aa az bp
   · have abO:∀ {m:List (aK E.T.El)},(match uw E bl e sz v with
      | some (_,m)=>match rl m with
        | true=>some m
        | false=>none
      | none=>none)=some m-> ∃ q,uw E bl e sz v=some (q,m)/\rl m=true:=fun {m} h=>by
      split at h
      · rename_i q eA a1
        split at h
        · rename_i kU
          simp only [Option.some.injEq] at h
          subst h
          exact ⟨q,a1,kU⟩
        · cases h
      · cases h
     split at h
     · rename_i b m J aa
       obtain ⟨q,aa,az⟩:=abO aa
       obtain ⟨l,bp,dj⟩:=h
       have dj:(⟨some (.r bl.length 0),bl++[.k e sz 0 m],[]⟩:dV E.T.El)=r:=dj
       subst dj
       have oR:b= []:=by
        obtain ⟨xs,⟨A,_,aq,a0⟩,ch⟩:=Q6 hm hb J af
        subst a0
        exact List.eq_nil_of_length_eq_zero ch.len.symm
       subst oR
       exact SM (p:=none) (b:=[]) J aa az (by simpa using bp)
     · rename_i i g b m J aa
       obtain ⟨q,aa,az⟩:=abO aa
       obtain ⟨l,bp,dj⟩:=h
       have dj:(⟨some (.r i (g+ 1)),bl.set i (.k e sz (g+ 1) (b++m)),[i]⟩:dV E.T.El)=r:=dj
       subst dj
       exact SM J aa az bp
     · exact h.elim
 · exact h.elim
end
end bK
namespace bK
open Go Go.RowKit ay I
def ja {α:Type} (z:List α):Nat->List α
 | 0 =>[]
 | n+ 1 =>z++ja z n
theorem JU {α:Type} (z:List α):∀ n,(ja z n).length=n*z.length
 | 0 =>by simp [ja]
 | n+ 1 =>by simp only [ja,List.length_append,JU z n,Nat.add_mul];omega
theorem adg {α:Type} {z:List α}:∀ {n i:Nat},i <n*z.length->(ja z n)[i]? =z[i % z.length]?
 | 0,i,h=>by simp at h
 | n+ 1,i,h=>by
   simp only [ja]
   rcases Nat.lt_or_ge i z.length with c | c
   · rw [List.getElem?_append_left c,Nat.mod_eq_of_lt c]
   · rw [List.getElem?_append_right c,adg (by rw [Nat.add_mul] at h;omega),Nat.mod_eq_sub_mod c]
theorem adf (uN:Array Value) (n:Nat) (h:0 <uN.size):((Array.range (n*uN.size)).map (uN[· % uN.size]!))=⟨ja uN.toList n⟩:=by
 rw [<-Array.toList_inj]
 apply List.ext_getElem?
 intro i
 rcases Nat.lt_or_ge i (n*uN.size) with c | c
 · simp only
   rw [adg (by simpa using c)]
   have hm:i % uN.size <uN.size:=Nat.mod_lt _ h
   simp [c,hm]
 · rw [List.getElem?_eq_none (by simpa using c),List.getElem?_eq_none (by rw [JU];simpa using c)]
theorem adh {El:Nat->Type} (z:List Value):∀ n,(ja z n).map (aK.p (El:=El))=ja (z.map .p) n
 | 0 =>rfl
 | n+ 1 =>by simp [ja,adh z n]
def Ul (E:Env) (bl:List (aI E.T.El)) (t n:Nat) (ps:List (Nat × aK E.T.El)):Option (dV E.T.El):=match oI E.P t,n,ps with
 | some (e,sz,_),0,[]=>match Nat.beq sz (E.T.ty e).size with
   | true=>some ⟨some (.r bl.length 0),bl++[.r e 0 0 []],[]⟩
   | false=>some ⟨some (.r bl.length 0),bl++[.k e sz 0 []],[]⟩
 | _,_,_=>none
def K6 (E:Env) (bl:List (aI E.T.El)) (t n:Nat) (ps:List (Nat × aK E.T.El)):D (dV E.T.El):=match oI E.P t with
 | some (e,sz,_)=>match w8 E.P e,Nat.ble n 100000 && Nat.blt 0 n && Nat.ble (n*sz) 16777216 with
   | some z,true=>match qj (fun i=>some (i*sz,sz)) (ja (z.map .p) n) ps with
     | some cs=>match kM bl cs with
       | (bl',ix)=>match Nat.beq sz (E.T.ty e).size,x' (E.T.e e) (xD sz n ix) with
         | true,some l=>.ok ⟨some (.r bl'.length 0),bl'++[.r e 0 0 l],[]⟩
         | _,_=>.ok ⟨some (.r bl.length 0),bl++[.k e sz 0 cs],[]⟩
     | none=>.no
   | _,_=>.no
 | none=>.no
def K5 (E:Env) (bl:List (aI E.T.El)) (t n:Nat) (ps:List (Nat × aK E.T.El)):D (dV E.T.El):=match Ul E bl t n ps with
 | some r=>.ok r
 | none=>K6 E bl t n ps
def QN:Operand->Operand->Bool
 | .tmp a,.tmp b=>Nat.beq a b
 | .const (.int .i64 m),.const (.int .i64 n)=>decide (m=n)
 | _,_=>false
theorem avG {a:Act} {x y:Operand} (h:QN x y=true):a.eval x=a.eval y:=by
 unfold QN at h
 split at h
 · rw [Nat.eq_of_beq_eq_true h]
 · rw [of_decide_eq_true h]
 · cases h
def K_ (E:Env) (bl:List (aI E.T.El)) (t:Nat) (x y:Operand) (u:aK E.T.El):D (dV E.T.El):=match oI E.P t,u with
 | some (e,sz,b8),.p (.int .i64 k)=>match Nat.beq sz (E.T.ty e).size,rN E e e,QN x y with
   | true,some g5,true=>.op (HN g5 b8 k) fun l=>.ok ⟨some (.r bl.length 0),bl++[.r e 0 0 l],[]⟩
   | _,_,_=>.no
 | _,_=>.no
section
variable {E:Env} {W w w':World} {aD:List Nat} {X:Nat->Prop} {n:cQ} {f:cI E.T.El} {bl:List (aI E.T.El)} {ρ:List Value} {a:Act} {cur:List (Nat × Bool)}
theorem En (hm:Mem E.T W aD X bl ρ w) {o:Oper} {e sz n:Nat} {vs:List Value} {B:aI E.T.El} (G7:cd (some B)= 0) (G6:∀ h,bD B h=bK.ai h) (au:vs.length=n*sz) (aS:n<=maxLen)
 (bZ:∀ (bl':List (aI E.T.El)) (ρ':List Value) (w':World),To X bl bl' ρ ρ' w w'->rowIs w' e sz (.slice (some ⟨w.heap.size,0,none⟩) n n) n vs->hp E.T (bs X bl' ρ' w') w' ρ' bl' B (.slice (some ⟨w.heap.size,0,none⟩) n n))
 (hy:bj E.P o a w (.slice (some ⟨w.heap.size,0,none⟩) n n) (w.alloc (.cells ⟨vs⟩ e))):fJ E o a W aD X bl ρ w ⟨some (.r bl.length 0),bl++[B],[]⟩:=by
 have aj:bw [] w (w.alloc (.cells ⟨vs⟩ e)):=bw.alloc _ _ _
 have aN:rowIs (w.alloc (.cells ⟨vs⟩ e)) e sz (.slice (some ⟨w.heap.size,0,none⟩) n n) n vs:=
  .inl ⟨au,.inr ⟨w.heap.size,n,⟨vs⟩,rfl,Nat.zero_le _,heap_alloc_new w _,Nat.le_refl _,aS,by simpa using au,by rw [<-au,List.take_length]⟩⟩
 have ag:∀ k ∈ bD B (.slice (some ⟨w.heap.size,0,none⟩) n n),w.heap.size<=k/\k <(w.alloc (.cells ⟨vs⟩ e)).heap.size:=fun k ak=>by
  rw [G6] at ak
  have:k=w.heap.size:=by
   cases n with
   | zero=>simp [bK.ai] at ak
   | succ q=>simpa [bK.ai] using ak
  subst this
  simp
 have aL:=hm.ux (B:=B) (h:=.slice (some ⟨w.heap.size,0,none⟩) n n) aj ag
 refine ⟨_,ρ++[.slice (some ⟨w.heap.size,0,none⟩) n n],hm.push aj ag (bZ _ _ _ aL aN),aL,fun k ak _=>aj.block k ak (by simp),_,hy,?_⟩
 simp only [aB]
 exact ⟨trivial,.slice (some ⟨w.heap.size,0,none⟩) n n,by rw [<-hm.len];simp,Nat.zero_le _,fun _=>rfl⟩
theorem ajd (ah:aZ E) (hm:Mem E.T W aD X bl ρ w) {o:Oper} {t n:Nat} {xs:List (Nat × Operand)} {ps:List (Nat × aK E.T.El)} {r:dV E.T.El} (h:(K6 E bl t n ps).out r) (aC:o.op= .buildSlice t n xs.toArray)
 (aP:nk E.T (bs X bl ρ w) w ρ bl ps (xs.map fun p=>(p.1,a.eval p.2))):fJ E o a W aD X bl ρ w r:=by
 unfold K6 at h
 split at h
 · rename_i e sz b8 he
   obtain ⟨hu,i0,et,hi,kX,J,aa,az,hb,dj⟩:=sO he
   split at h
   · rename_i z al ai
     simp only [Bool.and_eq_true] at ai
     have Vc:=Nat.le_of_ble_eq_true ai.1.1
     have GZ:=Nat.le_of_ble_eq_true ai.1.2
     have Vd:=Nat.le_of_ble_eq_true ai.2
     obtain ⟨RK,DU,iF⟩:=Fq al
     have DV:RK=et:=by
      have ao:=DU w
      simp only [zeroValue,typeInfo,Sem.run_bind] at ao
      simp [go_sem,hi,kX] at ao
      exact ao.symm
     subst DV
     have amb:z.length=sz:=by rw [<-az,iF];simp
     split at h
     · rename_i cs ag
       obtain ⟨os,f1,f2⟩:=Lk (n' (ja z n)) aP (by rw [adh];exact ag)
       have Ni:os.length=n*sz:=by
        have ao:=f2.len
        have key:∀ {ps:List (Nat × aK E.T.El)} {c d:List (aK E.T.El)},qj (fun i=>some (i*sz,sz)) c ps=some d->d.length=c.length:=by
         intro ps
         induction ps with
         | nil=>intro c d bG;simp only [qj,Option.some.injEq] at bG;rw [bG]
         | cons p r bH=>
           intro c d bG
           obtain ⟨i,y⟩:=p
           simp only [qj] at bG
           split at bG
           · rename_i vv
             simp only [Bool.and_eq_true] at vv
             rw [bH bG,N_ (Nat.le_of_ble_eq_true vv.2)]
           · cases bG
        rw [ao,key ag,JU,List.length_map,amb]
       have VI:=adf RK.cells n (by rw [az];exact hb)
       rw [az,iF] at VI
       have lH:bj E.P o a w (.slice (some ⟨w.heap.size,0,none⟩) n n) (w.alloc (.cells ⟨os⟩ e)):=by
        have bx: ¬ (n*sz > 2 ^ 24):=by omega
        have b6:n*sz≠ 0 :=by
         intro bG
         rcases Nat.mul_eq_zero.1 bG with q | q <;> omega
        simp only [bj,execOp,aC,Instr.buildSlice,Sem.run_bind,Sem.run_pure,run_sizeOf hi,J,DU,Result.andThen_ok,run_underlying hu,List.map_toArray,if_neg bx,if_neg b6]
        have VN:RK.cells.size=sz:=az
        rw [iF] at VN
        simp only [iF]
        rw [VN,VI,f1]
        rfl
       have DE:n<=maxLen:=by simp only [maxLen];omega
       split at h
       rename_i bl' ix mz
       obtain ⟨ed,t1,v1⟩:=GF hm mz f2
       split at h
       · rename_i l a1 au
         have h:(⟨some (.r bl'.length 0),bl'++[.r e 0 0 l],[]⟩:dV E.T.El)=r:=h
         subst h
         have a1:=Nat.eq_of_beq_eq_true a1
         obtain ⟨cN,ec⟩:=NG ah n v1 Ni au
         refine fJ.first t1 (fun i hi=>by simp at hi) (En (e:=e) (sz:=sz) (n:=n) (vs:=os) ed rfl (fun _=>rfl) Ni DE (fun sG jb dZ fC aN=>?_) lH)
         subst a1
         exact ⟨_,_,os,by rw [ec],by rw [ec];exact aN,k7 _ fC.F cN⟩
       · have h:(⟨some (.r bl.length 0),bl++[.k e sz 0 cs],[]⟩:dV E.T.El)=r:=h
         subst h
         exact En (e:=e) (sz:=sz) (n:=n) (vs:=os) hm rfl (fun _=>rfl) Ni DE (fun sG jb dZ fC aN=>⟨_,_,_,os,rfl,aN,fC.vs f2⟩) lH
     · exact h.elim
   · exact h.elim
 · exact h.elim
theorem aje (ah:aZ E) (hm:Mem E.T W aD X bl ρ w) {o:Oper} {t n:Nat} {xs:List (Nat × Operand)} {ps:List (Nat × aK E.T.El)} {r:dV E.T.El} (h:(K5 E bl t n ps).out r) (aC:o.op= .buildSlice t n xs.toArray)
 (aP:nk E.T (bs X bl ρ w) w ρ bl ps (xs.map fun p=>(p.1,a.eval p.2))):fJ E o a W aD X bl ρ w r:=by
 unfold K5 at h
 split at h
 · rename_i hV aY
   have h:hV=r:=h
   subst h
   unfold Ul at aY
   split at aY
   · rename_i e sz b8 he
     obtain ⟨hu,i0,et,hi,kX,J,aa,az,hb,dj⟩:=sO he
     have af:xs= []:=by
      cases xs with
      | nil=>rfl
      | cons p q=>simp [nk] at aP
     subst af
     have hy:bj E.P o a w _ _:=ayq (sz:=i0.size) hu (fun w=>run_sizeOf hi w) aC
     split at aY
     · rename_i ai
       simp only [Option.some.injEq] at aY
       subst aY
       exact En (e:=e) (sz:=sz) (n:=0) (vs:=[]) hm rfl (fun _=>rfl) (by simp) (Nat.zero_le _) (fun sG jb dZ fC aN=>⟨_,_,[],rfl,by rw [<-Nat.eq_of_beq_eq_true ai];exact aN,rfl⟩) hy
     · simp only [Option.some.injEq] at aY
       subst aY
       exact En (e:=e) (sz:=sz) (n:=0) (vs:=[]) hm rfl (fun _=>rfl) (by simp) (Nat.zero_le _) (fun sG jb dZ fC aN=>⟨_,_,_,[],rfl,aN,rfl⟩) hy
   · cases aY
 · exact ajd ah hm h aC aP
theorem abk {α:Type} {T:c8 α} {F:Nat->Prop} {w:World} {z:List Value} {g5:α} (h:T.rd F w z g5):∀ n,dF T F w (ja z n) (List.replicate n g5)
 | 0 =>rfl
 | n+ 1 =>⟨z,ja z n,rfl,h,abk h n⟩
theorem ajj (ah:aZ E) (hm:Mem E.T W aD X bl ρ w) {o:Oper} {t:Nat} {x y:Operand} {u:aK E.T.El} {r:dV E.T.El} (h:(K_ E bl t x y u).out r) (aC:o.op= .makeSlice t x y) (af:aB E.T (bs X bl ρ w) w ρ bl u (a.eval x)):fJ E o a W aD X bl ρ w r:=by
 unfold K_ at h
 split at h
 · rename_i e sz b8 k he
   obtain ⟨hu,i0,et,hi,kX,J,aa,az,hb,dj⟩:=sO he
   split at h
   · rename_i g5 a1 al ar
     obtain ⟨l,gn,g_⟩:=h
     have g_:(⟨some (.r bl.length 0),bl++[.r e 0 0 l],[]⟩:dV E.T.El)=r:=g_
     subst g_
     have a1:=Nat.eq_of_beq_eq_true a1
     obtain ⟨gX,bt,rfl⟩:=aon gn
     obtain ⟨m,rfl⟩:=Int.eq_ofNat_of_zero_le gX
     simp only [Int.toNat_natCast] at *
     have hle:m<=b8*m:=Nat.le_mul_of_pos_left m dj
     have DE:m<=maxLen:=by simp only [maxLen];omega
     simp only [aB] at af
     have hy:a.eval y= .int .i64 (m:Int):=by rw [<-avG ar,af]
     have fX:(E.T.ty e).rd (bs X bl ρ w) w et.cells.toList g5:=by
      unfold rN at al
      split at al
      · rename_i Fs iF
        split at al
        · have ao:Fs=et:=by
           simp only [y7,hi] at iF
           rw [kX] at iF
           exact (Option.some.inj iF).symm
          subst ao
          exact ah.tb.fY _ _ _ al _ _ ρ bl _ (n' _)
        · cases al
      · cases al
     have vv:(i0.bytes:Int)*(m:Int)<= 281474976710656 :=by
      rw [aa]
      have ly:((b8*m:Nat):Int)<= 281474976710656 :=by omega
      rwa [Int.natCast_mul] at ly
     have gp:=run_make (P:=E.P) w t e i0 et hu hi kX .i64 .i64 (m:Int) (m:Int) (by omega) (Int.le_refl _) vv (by simp only [maxLen] at DE;omega)
     simp only [Int.toNat_natCast] at gp
     have akE:madeCells et.cells (m*sz)=⟨ja et.cells.toList m⟩:=by
      have:=adf et.cells m (by rw [az];exact hb)
      rw [az] at this
      simp only [madeCells,az]
      exact this
     rw [J,akE] at gp
     have lH:bj E.P o a w (.slice (some ⟨w.heap.size,0,none⟩) m m) (w.alloc (.cells ⟨ja et.cells.toList m⟩ e)):=by
      simp only [bj,execOp,aC,af,hy,Sem.run_bind,gp,Result.andThen_ok,Sem.run_pure]
     refine En (e:=e) (sz:=sz) (n:=m) (vs:=ja et.cells.toList m) hm rfl (fun _=>rfl) (by rw [JU];simp [az]) DE (fun sG jb dZ fC aN=>?_) lH
     subst a1
     exact ⟨_,_,_,by rw [List.length_replicate],by rw [List.length_replicate];exact aN,abk ((E.T.ty e).law fC.F fX) m⟩
   · exact h.elim
 · exact h.elim
end
end bK
namespace bK
open Go Go.RowKit ay I
def ab3 (P:Program) (t:Nat):Bool:=match P.underlying t with
 | some (.int .u8)=>true
 | _=>false
def Ld (E:Env) (bl:List (aI E.T.El)) (s d:Nat) (u:aK E.T.El):D (dV E.T.El):=match E.P.underlying s,E.P.underlying d,u with
 | some .string,some (.slice e),.p (.string ⟨⟨l⟩⟩)=>match Nat.beq e E.jl,ab3 E.P E.jl with
   | true,true=>.op (bytesOf l) fun r=>.ok ⟨some (.s E.jl (E.FV r)),bl,[]⟩
   | _,_=>.no
 | _,_,_=>.no
section
variable {E:Env} {W w w':World} {aD:List Nat} {X:Nat->Prop} {bl:List (aI E.T.El)} {ρ:List Value} {a:Act}
theorem ajo (ah:aZ E) (hm:Mem E.T W aD X bl ρ w) {o:Oper} {s d:Nat} {x:Operand} {u:aK E.T.El} {r:dV E.T.El} (al:(Ld E bl s d u).out r) (aC:o.op= .convert s d x) (af:aB E.T (bs X bl ρ w) w ρ bl u (a.eval x)):fJ E o a W aD X bl ρ w r:=by
 unfold Ld at al
 split at al
 · rename_i e l aL qF
   split at al
   · rename_i ai hu
     have ai:=Nat.eq_of_beq_eq_true ai
     subst ai
     have he:E.P.underlying E.jl=some (.int .u8):=by
      unfold ab3 at hu
      split at hu
      · assumption
      · cases hu
     obtain ⟨q,J,aa⟩:=al
     have aa:(⟨some (.s E.jl (E.FV q)),bl,[]⟩:dV E.T.El)=r:=aa
     subst aa
     simp only [aB] at af
     unfold bytesOf at J
     split at J
     · rename_i hle
       simp only [Option.some.injEq] at J
       subst J
       have gp:=run_bytes_of_string (P:=E.P) w s d E.jl ⟨⟨l⟩⟩ aL qF he
       have ej:(⟨⟨l⟩⟩:ByteArray).size=l.length:=rfl
       have hc:=grownCap_ge w l.length 0 E.jl
       have oT:=grownCap_le_maxLen w l.length 0 E.jl (by simp only [maxLen];omega)
       obtain ⟨B,bZ⟩:∃ B,B=bytesRow ⟨⟨l⟩⟩ (grownCap w l.length 0 E.jl):=⟨_,rfl⟩
       obtain ⟨fA,kS⟩:∃ fA,fA=grownCap w l.length 0 E.jl:=⟨_,rfl⟩
       rw [ej,<-bZ,<-kS] at gp
       rw [<-kS] at hc oT
       have hy:bj E.P o a w (.slice (some ⟨w.heap.size,0,none⟩) l.length fA) (w.drew.alloc (.cells B E.jl (B.size,B.size+ 1))):=by
        simp only [bj,execOp,aC,af,Sem.run_bind,gp,Result.andThen_ok]
        rfl
       have iC:bw [] w (w.drew.alloc (.cells B E.jl (B.size,B.size+ 1))):=(bw.drew [] w).trans (bw.alloc [] _ _) (by simp)
       refine ⟨_,ρ,hm.e5 iC,Mem.I8 iC,fun k ak _=>iC.block k ak (by simp),_,hy,?_⟩
       simp only [aB]
       refine ⟨_,fA,by rw [ah.Sm],by rw [ah.Sm];exact hc,oT,(fun h=>by cases h),fun _=>⟨rfl,⟨?_,?_,by show w.heap.size <_;simp⟩,_,ah.ady _ _ _ _ (abi l),fun j u aJ=>?_⟩⟩
       · intro ak
         have J:w.heap.size <W.heap.size:=(hm.gZ _ ak).1
         have aa:=hm.cr.size
         omega
       · intro ak
         have J:w.heap.size <w.heap.size:=(hm.lt _ ak).1
         omega
       · rw [List.getElem?_map,Option.map_eq_some_iff] at aJ
         obtain ⟨b,ai,rfl⟩:=aJ
         obtain ⟨qB,fi⟩:=List.getElem?_eq_some_iff.1 ai
         have:=bytesRow_at ⟨⟨l⟩⟩ (grownCap w l.length 0 E.jl) j (by simpa using qB)
         rw [<-bZ] at this
         show World.cell? _ ⟨w.heap.size,0 +j,none⟩=_
         simp only [World.cell?,World.alloc]
         rw [show (w.drew.heap.push _)[w.heap.size]? =some _ from Array.getElem?_push_size (xs:=w.heap)]
         simp only [Nat.zero_add,this]
         simp [fi]
     · cases J
   · exact al.elim
 · exact al.elim
end
end bK
namespace bK
open Go Go.RowKit ay I
def KX (E:Env) (bl:List (aI E.T.El)) (t E7:Nat) (u v:aK E.T.El):D (dV E.T.El):=match oI E.P t,iX (E.P.underlying E7),u,v with
 | some (e,sz,b8),some (.i .i64),.p (.slice none 0 0),.p (.int .i64 k)=>match Nat.beq sz 1 && Nat.beq (E.T.ty e).size 1,rN E e e with
   | true,some g5=>.op (CG g5 b8 k) fun l=>.ok ⟨some (.r bl.length 0),bl++[.r e 0 0 l],[]⟩
   | _,_=>.no
 | _,_,_,_=>.no
section
variable {E:Env} {W w w':World} {aD:List Nat} {X:Nat->Prop} {n:cQ} {f:cI E.T.El} {bl:List (aI E.T.El)} {ρ:List Value} {a:Act} {cur:List (Nat × Bool)}
theorem ai5 (ah:aZ E) (hm:Mem E.T W aD X bl ρ w) {o:Oper} {t E7:Nat} {x y:Operand} {u v:aK E.T.El} {r:dV E.T.El} (h:(KX E bl t E7 u v).out r) (aC:o.op= .call { callee:=.builtin .append,args:=#[x,y],argTypes:=#[t,E7] })
 (af:aB E.T (bs X bl ρ w) w ρ bl u (a.eval x)) (aj:aB E.T (bs X bl ρ w) w ρ bl v (a.eval y)):fJ E o a W aD X bl ρ w r:=by
 unfold KX at h
 split at h
 · rename_i e sz b8 k he ak
   obtain ⟨hu,i0,et,hi,kX,J,aa,az,hb,dj⟩:=sO he
   have akd:=qL ak
   split at h
   · rename_i g5 ai al
     simp only [Bool.and_eq_true] at ai
     have ar:=Nat.eq_of_beq_eq_true ai.1
     have hO:=Nat.eq_of_beq_eq_true ai.2
     subst ar
     obtain ⟨l,gn,g_⟩:=h
     have g_:(⟨some (.r bl.length 0),bl++[.r e 0 0 l],[]⟩:dV E.T.El)=r:=g_
     subst g_
     obtain ⟨gX,bt,rfl⟩:=adu gn
     obtain ⟨m,rfl⟩:=Int.eq_ofNat_of_zero_le (Int.le_of_lt gX)
     simp only [Int.toNat_natCast] at *
     have hle:m<=b8*m:=Nat.le_mul_of_pos_left m dj
     simp only [aB] at af aj
     have fX:(E.T.ty e).rd (bs X bl ρ w) w et.cells.toList g5:=by
      unfold rN at al
      split at al
      · rename_i Fs iF
        split at al
        · have ao:Fs=et:=by
           simp only [y7,hi] at iF
           rw [kX] at iF
           exact (Option.some.inj iF).symm
          subst ao
          exact ah.tb.fY _ _ _ al _ _ ρ bl _ (n' _)
        · cases al
      · cases al
     obtain ⟨fA,kS⟩:∃ fA,et.cells= #[fA]:=by
      revert az
      generalize et.cells=cs
      obtain ⟨l⟩:=cs
      intro az
      cases l with
      | nil=>simp at az
      | cons c r=>cases r with
        | nil=>exact ⟨c,rfl⟩
        | cons _ _=>simp at az
     have gp:=Lib.run_append_nil_zeros (P:=E.P) w t E7 o.type e i0 et .i64 .i64 hu akd hi kX m (by omega) (by omega) (by omega) (by rw [aa,Nat.mul_comm];omega)
     let cap:=grownCap w m 0 e
     have MK:m<=cap:=grownCap_ge w m 0 e
     have Dd:cap<=maxLen:=grownCap_le_maxLen w m 0 e (by simp only [maxLen];omega)
     have NA:∀ q,(Builtin.zeroCells et.cells q).toList=List.replicate q fA:=by
      intro q
      rw [kS]
      apply List.ext_getElem
      · simp [Builtin.zeroCells]
      · intro j J aa
        simp [Builtin.zeroCells,Nat.mod_one]
     let cur:=Builtin.zeroCells et.cells m++Builtin.zeroCells et.cells (cap - m)
     have hcs:cur.size=cap:=by simp only [cur,Array.size_append,size_zeroCells,kS];simp;omega
     have lH:bj E.P o a w (.slice (some ⟨w.heap.size,0,none⟩) m cap) (w.drew.alloc (.cells cur e)):=by
      simp only [bj,execOp,aC,resolve,invoke,builtin,Sem.run_bind,Sem.run_pure,Result.andThen_ok,List.map_toArray,List.map_cons,List.map_nil,af,aj,gp,cap,cur]
     have iC:bw [] w (w.drew.alloc (.cells cur e)):=(bw.drew [] w).trans (bw.alloc [] w.drew (.cells cur e)) (by simp)
     have G8:w.drew.heap.size=w.heap.size:=rfl
     have o4:rowIs (w.drew.alloc (.cells cur e)) e 1 (.slice (some ⟨w.heap.size,0,none⟩) m cap) m (List.replicate m fA):=by
      refine .inl ⟨by simp,.inr ⟨w.heap.size,cap,cur,rfl,Nat.zero_le _,?_,MK,Dd,by simp [hcs],?_⟩⟩
      · rw [<-G8];exact heap_alloc_new w.drew _
      · simp only [cur,Array.toList_append,NA,Nat.mul_one]
        rw [List.take_append_of_le_length (by simp),List.take_of_length_le (by simp)]
     have x0:cap=(cap - 1)+ 1 :=by omega
     have ag:∀ q ∈ bD (aI.r (El:=E.T.El) e 0 0 (List.replicate m g5)) (.slice (some ⟨w.heap.size,0,none⟩) m cap),w.heap.size<=q/\q <(w.drew.alloc (.cells cur e)).heap.size:=fun q a1=>by
      rw [x0] at a1
      have:q=w.heap.size:=by simpa [bD,bK.ai] using a1
      subst this
      simp
     have aL:=hm.ux (B:=aI.r e 0 0 (List.replicate m g5)) (h:=.slice (some ⟨w.heap.size,0,none⟩) m cap) iC ag
     have alL:∀ (q:Nat) (F:Nat->Prop) (w':World),(E.T.ty e).rd F w' [fA] g5->dF (E.T.ty e) F w' (List.replicate q fA) (List.replicate q g5):=fun q F w' h=>by
      induction q with
      | zero=>rfl
      | succ q bH=>exact ⟨[fA],List.replicate q fA,rfl,h,bH⟩
     refine ⟨_,ρ++[.slice (some ⟨w.heap.size,0,none⟩) m cap],hm.push iC ag ⟨some ⟨w.heap.size,0,none⟩,cap,List.replicate m fA,by rw [List.length_replicate],by rw [hO,List.length_replicate];exact o4,alL m _ _ ?_⟩,aL,fun k ak _=>iC.block k ak (by simp),_,lH,?_⟩
     · have:=(E.T.ty e).law aL.F fX
       rwa [kS] at this
     · simp only [aB]
       exact ⟨trivial,.slice (some ⟨w.heap.size,0,none⟩) m cap,by rw [<-hm.len];simp,Nat.zero_le _,fun _=>rfl⟩
   · exact h.elim
 · exact h.elim
end
end bK
namespace I
def fP {α:Type} (l:List α) (p:Nat) (ds:List α):List α:=l.take p++ds++l.drop (p+ds.length)
theorem Ih {α:Type} {l:List α} {p:Nat} {ds:List α} (h:p+ds.length<=l.length):(fP l p ds).length=l.length:=by
 simp [fP];omega
end I
namespace bK
open Go Go.RowKit ay I
theorem Up (b:Nat):∀ (vs:List Value) (o:Nat) (w:World),bw [b] w (w.setCells b o vs)
 | [],_,w=>bw.refl _ w
 | v::r,o,w=>(bw.set w ⟨b,o,none⟩ v).trans (Up b r (o+ 1) _) (fun x af=>.inl af)
theorem abG (b:Nat) (e:TypeId) (GH:Nat × Nat):∀ (vs:List Value) (o:Nat) (w:World) (cur:List Value),w.heap[b]? =some (.cells cur.toArray e GH)->o+vs.length<=cur.length ->
 (w.setCells b o vs).heap[b]? =some (.cells (fP cur o vs).toArray e GH)
 | [],o,w,cur,h,_=>by simpa [World.setCells,fP] using h
 | v::r,o,w,cur,h,au=>by
   simp only [List.length_cons] at au
   have ai:b <w.heap.size:=by
    rcases Nat.lt_or_ge b w.heap.size with h' | h'
    · exact h'
    · rw [Array.getElem?_eq_none h'] at h;cases h
   have J:(w.setCell ⟨b,o,none⟩ v).heap[b]? =some (.cells (cur.set o v).toArray e GH):=by
    simp only [World.setCell,Array.getElem?_modify,if_pos,h,Option.map_some]
    simp
   have:=abG b e GH r (o+ 1) _ (cur.set o v) J (by simp;omega)
   show ((w.setCell ⟨b,o,none⟩ v).setCells b (o+ 1) r).heap[b]? =_
   rw [this]
   have DQ:cur.set o v=cur.take o++v::cur.drop (o+ 1):=by rw [List.set_eq_take_append_cons_drop,if_pos (by omega)]
   have aL:(cur.take o).length=o:=by rw [List.length_take];omega
   have ao:(cur.set o v).take (o+ 1)=cur.take o++[v]:=by
    rw [DQ,List.take_append,aL,List.take_of_length_le (by rw [aL];omega)]
    simp
   have aq:(cur.set o v).drop (o+ 1 +r.length)=cur.drop (o+(v::r).length):=by
    rw [List.drop_set_of_lt (by omega)]
    congr 1
    simp;omega
   simp only [fP]
   rw [ao,aq]
   simp
theorem asF {α:Type} {l ds:List α} {p n:Nat} (h:p+ds.length<=n) (aS:n<=l.length):(fP l p ds).take n=fP (l.take n) p ds:=Q0 h aS
structure Ka (El:Nat->Type) where
 i:Nat
 t:Nat
 g:Nat
 k:Nat
 l:List (El t)
 lo:Int
 hi:Int
def Il {El:Nat->Type} (bl:List (aI El)):aK El->Option (Ka El)
 | .v i g lo hi=>match nth bl i with
   | some (.r t bN k l)=>match Nat.beq g bN with
     | true=>some ⟨i,t,bN,k,l,lo,hi⟩
     | false=>none
   | _=>none
 | .r i g=>match nth bl i with
   | some (.r t bN k l)=>match Nat.beq g bN with
     | true=>some ⟨i,t,bN,k,l,0,(l.length:Int)⟩
     | false=>none
   | _=>none
 | _=>none
def K1 (E:Env) (bl:List (aI E.T.El)) (t:Nat) (u v:aK E.T.El):D (dV E.T.El):=match oI E.P t,Il bl u with
 | some (_,n,_),some p=>match Nat.beq n 1 && Nat.beq (E.T.ty p.t).size 1,E4 E bl p.t v with
   | true,some m=>.op (Em (decide (0 <p.l.length))) fun _=>.ok ⟨some (.p (.int .i64 ((m.take (p.hi - p.lo).toNat).length:Int))),bl.set p.i (.r p.t p.g (p.k+ 1) (fP p.l p.lo.toNat (m.take (p.hi - p.lo).toNat))),[p.i]⟩
   | _,_=>.no
 | _,_=>.no
def K0 (E:Env) (bl:List (aI E.T.El)) (t:Nat) (u:aK E.T.El):D (dV E.T.El):=match oI E.P t,Il bl u with
 | some (e,sz,_),some p=>match Nat.beq sz 1 && Nat.beq (E.T.ty p.t).size 1 && !(E.T.e p.t).agg,rN E p.t e with
   | true,some g5=>.op (Em (decide (p.lo <p.hi))) fun _=>.ok ⟨some (.u []),bl.set p.i (.r p.t p.g (p.k+ 1) (fP p.l p.lo.toNat (List.replicate (p.hi - p.lo).toNat g5))),[p.i]⟩
   | _,_=>.no
 | _,_=>.no
section
variable {E:Env} {W w w':World} {aD:List Nat} {X:Nat->Prop} {n:cQ} {f:cI E.T.El} {bl:List (aI E.T.El)} {ρ:List Value} {a:Act} {cur:List (Nat × Bool)}
theorem aaJ (hm:Mem E.T W aD X bl ρ w) {u:aK E.T.El} {v:Value} {p:Ka E.T.El} (h:Il bl u=some p) (J:(E.T.ty p.t).size= 1) (aj:aB E.T (bs X bl ρ w) w ρ bl u v) :
 bl[p.i]? =some (.r p.t p.g p.k p.l)/\ 0 <=p.lo/\p.lo<=p.hi/\p.hi<=p.l.length/\ ∃ A c B bO,ρ[p.i]? =some (.slice A p.l.length c)/\v= .slice B (p.hi.toNat - p.lo.toNat) bO/\(p.lo <p.hi->B=A.map (·.add p.lo.toNat)):=by
 unfold Il at h
 split at h
 · rename_i i g lo hi
   split at h
   · rename_i t bN k l cW
     rw [c3] at cW
     split at h
     · rename_i ai
       simp only [Option.some.injEq] at h
       subst h
       simp only [aB] at aj
       obtain ⟨_,aO,bx,b6,b'⟩:=aj
       rw [cW] at b'
       obtain ⟨A,n,c,B,ao,aq,a0,ch,dt,gk,jY⟩:=b' (Nat.eq_of_beq_eq_true ai)
       obtain ⟨db,bO,xs,f1,f2,f3⟩:=hm.ok _ _ _ cW bx
       rw [ao] at f1
       simp only [Value.slice.injEq] at f1
       obtain ⟨rfl,rfl,rfl⟩:=f1
       refine ⟨cW,aq,a0,ch,A,c,B,_,ao ▸ bx,dt,fun bL=>?_⟩
       have:=jY bL
       simp only [hC,J,Nat.mul_one] at this
       exact this
     · cases h
   · cases h
 · rename_i i g
   split at h
   · rename_i t bN k l cW
     rw [c3] at cW
     split at h
     · rename_i ai
       simp only [Option.some.injEq] at h
       subst h
       simp only [aB] at aj
       obtain ⟨_,aO,bx,b6,b'⟩:=aj
       rw [cW] at b'
       have e:=b' (Nat.eq_of_beq_eq_true ai)
       subst e
       obtain ⟨db,bO,xs,f1,f2,f3⟩:=hm.ok _ _ _ cW bx
       refine ⟨cW,Int.le_refl _,by simp,Int.le_refl _,db,bO,db,bO,f1 ▸ bx,by simpa using f1,fun _=>?_⟩
       cases db with
       | none=>rfl
       | some dR=>
         simp [Addr.add]
     · cases h
   · cases h
 · cases h
theorem abu (hm:Mem E.T W aD X bl ρ w) {o:Oper} {p:Ka E.T.El} {A:Option Addr} {c:Nat} (hi:bl[p.i]? =some (.r p.t p.g p.k p.l)) (bG:ρ[p.i]? =some (.slice A p.l.length c)) (J:(E.T.ty p.t).size= 1) {q:Nat} {ds:List (E.T.El p.t)} {vs:List Value} (aN:dF (E.T.ty p.t) (bs X bl ρ w) w vs ds) (bL:0 <p.l.length) (hle:q+ds.length<=p.l.length) :
 ∃ dH,A=some ⟨dH,0,none⟩/\vs.length=ds.length/\(∀ j,j <p.l.length->(w.cell? ⟨dH,j,none⟩).isSome=true)/\(∀ j,w.frozen? ⟨dH,j,none⟩=false) /\
   ∀ {r:Value} {y:aK E.T.El},(∀ (F:Nat->Prop) (w:World) (ρ:List Value) (bl:List (aI E.T.El)),aB E.T F w ρ bl y r)->bj E.P o a w r (w.setCells dH q vs)->fJ E o a W aD X bl ρ w ⟨some y,bl.set p.i (.r p.t p.g (p.k+ 1) (fP p.l q ds)),[p.i]⟩:=by
 obtain ⟨db,bO,xs,f1,f2,f3⟩:=hm.ok _ _ _ hi bG
 simp only [Value.slice.injEq,true_and] at f1
 obtain ⟨rfl,rfl⟩:=f1
 obtain ⟨dH,rfl,qt,hc,iS⟩:=rr bL f2
 have qH:=rq _ aN
 rw [J,Nat.mul_one] at qH
 have o5:=rq _ f3
 rw [J,Nat.mul_one] at o5
 have iU:=f2.own bL
 rw [J] at iU
 rcases iU.2 with ⟨_,aY⟩ | ⟨g',cap,cur,ao,aq,a0,ch,dt,gk,jY⟩
 · omega
 simp only [Value.slice.injEq,Option.some.injEq,Addr.mk.injEq,and_true,true_and] at ao
 obtain ⟨rfl,rfl⟩:=ao
 rw [Nat.mul_one] at gk jY
 have ML:(⟨cur.toList⟩:Array Value)=cur:=by simp
 refine ⟨dH,rfl,qH,fun j aJ=>?_,fun j=>by simp [World.frozen?,a0],fun {r y} hy lH=>?_⟩
 · have:j <cur.size:=by omega
   simp [World.cell?,a0,this]
 have aR:bD (aI.r p.t p.g p.k p.l) (.slice (some ⟨dH,0,none⟩) p.l.length c)= [dH]:=iS _
 have iC:bw (bD (aI.r p.t p.g p.k p.l) (.slice (some ⟨dH,0,none⟩) p.l.length c)) w (w.setCells dH q vs):=by rw [aR];exact Up dH vs q w
 have ak3:=abG dH p.t (0,0) vs q w cur.toList (by rw [<-ML] at a0;exact a0) (by simp;omega)
 have o4:rowIs (w.setCells dH q vs) p.t 1 (.slice (some ⟨dH,0,none⟩) p.l.length c) p.l.length (fP xs q vs):=by
  refine .inl ⟨by rw [Ih (by omega),o5,Nat.mul_one],.inr ⟨dH,c,_,rfl,aq,ak3,ch,dt,?_,?_⟩⟩
  · have:=Ih (l:=cur.toList) (p:=q) (ds:=vs) (by simp;omega)
    simpa [gk] using this
  · simp only [Nat.mul_one]
    rw [asF (by omega) (by simp;omega),jY]
 have ag:∀ k ∈ bD (aI.r p.t p.g (p.k+ 1) (fP p.l q ds)) (.slice (some ⟨dH,0,none⟩) p.l.length c),k ∈ bD (aI.r p.t p.g p.k p.l) (.slice (some ⟨dH,0,none⟩) p.l.length c)\/(w.heap.size<=k/\k <(w.setCells dH q vs).heap.size):=fun k ak=>.inl ak
 have M9:∀ {h:Value},(¬ kZ h->h=h)/\cd (some (aI.r p.t p.g p.k p.l))<=cd (some (aI.r p.t p.g (p.k+ 1) (fP p.l q ds)))/\(cd (some (aI.r p.t p.g (p.k+ 1) (fP p.l q ds)))=cd (some (aI.r p.t p.g p.k p.l))->h=h/\hC E.T (some (aI.r p.t p.g (p.k+ 1) (fP p.l q ds)))=hC E.T (some (aI.r p.t p.g p.k p.l))/\fF (some (aI.r p.t p.g p.k p.l))<=fF (some (aI.r p.t p.g (p.k+ 1) (fP p.l q ds)))/\(fF (some (aI.r p.t p.g (p.k+ 1) (fP p.l q ds)))=fF (some (aI.r p.t p.g p.k p.l))->oa (some (aI.r p.t p.g (p.k+ 1) (fP p.l q ds)))=oa (some (aI.r p.t p.g p.k p.l)))):=fun {h}=>
  ⟨fun _=>rfl,Nat.le_refl _,fun _=>⟨rfl,rfl,Nat.le_succ _,fun e=>by simp [fF] at e⟩⟩
 have aL:=hm.yX (B':=aI.r p.t p.g (p.k+ 1) (fP p.l q ds)) (h':=.slice (some ⟨dH,0,none⟩) p.l.length c) hi bG iC ag M9
 have ar:=yK bG
 have fX:dF (E.T.ty p.t) (bs X (bl.set p.i (.r p.t p.g (p.k+ 1) (fP p.l q ds))) ρ (w.setCells dH q vs)) (w.setCells dH q vs) (fP xs q vs) (fP p.l q ds):=by
  rw [ar] at aL
  have cN:=k7 _ aL.F f3
  have ec:=k7 _ aL.F aN
  have cJ:=pz 0 q cN
  have cm:=pz (q+ds.length) p.l.length cN
  rw [J] at cJ cm
  simp only [Nat.mul_one,Nat.zero_mul,List.drop_zero] at cJ cm
  rw [List.take_of_length_le (by omega),List.take_of_length_le (by omega)] at cm
  have:=EK _ cm (EK _ ec cJ)
  unfold fP
  rw [qH]
  exact this
 have ea:=hm.uy (B':=aI.r p.t p.g (p.k+ 1) (fP p.l q ds)) (h':=.slice (some ⟨dH,0,none⟩) p.l.length c) hi bG iC ag aL (by
  rw [ar]
  exact ⟨some ⟨dH,0,none⟩,c,fP xs q vs,by rw [Ih hle],by rw [J,Ih hle];exact o4,fX⟩)
 rw [ar] at ea aL
 exact ⟨_,ρ,ea,aL,fun k ak cS=>iC.block k ak (cS p.i (by simp) _ _ hi bG),r,lH,hy _ _ _ _⟩
theorem ai_ (ah:aZ E) (hm:Mem E.T W aD X bl ρ w) {o:Oper} {t:Nat} {x y:Operand} {u v:aK E.T.El} {r:dV E.T.El} (h:(K1 E bl t u v).out r) (aC:o.op= .call { callee:=.builtin .copy,args:=#[x,y],argTypes:=#[t,t] })
 (af:aB E.T (bs X bl ρ w) w ρ bl u (a.eval x)) (hy:aB E.T (bs X bl ρ w) w ρ bl v (a.eval y)):fJ E o a W aD X bl ρ w r:=by
 unfold K1 at h
 split at h
 · rename_i e n b8 p he aP
   obtain ⟨hu,i0,et,iE,kX,fk,hO,VL,hb,alR⟩:=sO he
   split at h
   · rename_i m ai Nq
     simp only [Bool.and_eq_true] at ai
     have aS:=Nat.eq_of_beq_eq_true ai.1
     have J:=Nat.eq_of_beq_eq_true ai.2
     subst aS
     obtain ⟨_,vG,h⟩:=h
     have vG:0 <p.l.length:=of_decide_eq_true (OT vG)
     have h:(⟨some (.p (.int .i64 ((m.take (p.hi - p.lo).toNat).length:Int))),bl.set p.i (.r p.t p.g (p.k+ 1) (fP p.l p.lo.toNat (m.take (p.hi - p.lo).toNat))),[p.i]⟩:dV E.T.El)=r:=h
     subst h
     obtain ⟨hi,l1,cT,ig,A,c,B,bO,bG,ao,aq⟩:=aaJ hm aP J af
     obtain ⟨dr,cm,news,s1,s2,ET⟩:=abP ah hm Nq hy
     have DJ:=rq _ ET
     rw [J,Nat.mul_one] at DJ
     have ak:(m.take (p.hi - p.lo).toNat).length=Nat.min m.length (p.hi.toNat - p.lo.toNat):=by
      rw [List.length_take,Nat.min_comm]
      congr 1
      omega
     have oU:=pz 0 (p.hi - p.lo).toNat ET
     rw [J] at oU
     simp only [Nat.mul_one,Nat.zero_mul,List.drop_zero] at oU
     have Hd:(E.P.info? e).map (·.size)=some 1 :=by rw [iE];simp [fk]
     obtain ⟨dH,rfl,qH,hv,MR,fin⟩:=abu (o:=o) (a:=a) (q:=p.lo.toNat) hm hi bG J oU vG (by rw [ak];have:=Nat.min_le_right m.length (p.hi.toNat - p.lo.toNat);have e:Nat.min m.length (p.hi.toNat - p.lo.toNat)=min m.length (p.hi.toNat - p.lo.toNat):=rfl;omega)
     refine fin (r:=.int .i64 ((m.take (p.hi - p.lo).toNat).length:Int)) (fun F w ρ bl=>by simp only [aB]) ?_
     rcases Nat.eq_zero_or_pos (m.take (p.hi - p.lo).toNat).length with aY | aY
     · have gp:=run_copy_none (P:=E.P) w t t o.type e B dr (p.hi.toNat - p.lo.toNat) bO m.length cm hu Hd (by rw [<-ak];exact aY)
       have cw:news.take (p.hi - p.lo).toNat= []:=List.eq_nil_of_length_eq_zero (qH.trans aY)
       rw [cw,aY]
       simp only [bj,execOp,aC,resolve,invoke,builtin,Sem.run_bind,Sem.run_pure,Result.andThen_ok,List.map_toArray,List.map_cons,List.map_nil,ao,s1,gp]
       rfl
     · have bL:p.lo <p.hi:=by
        rw [ak] at aY
        have e:Nat.min m.length (p.hi.toNat - p.lo.toNat)=min m.length (p.hi.toNat - p.lo.toNat):=rfl
        omega
       rcases s2 with ⟨bx,_⟩ | ⟨dR,rfl,b6,b',gQ⟩
       · rw [ak,bx] at aY
         have e:Nat.min 0 (p.hi.toNat - p.lo.toNat)=min 0 (p.hi.toNat - p.lo.toNat):=rfl
         omega
       · have bZ:=aq bL
         have bZ:B=some ⟨dH,p.lo.toNat,none⟩:=by rw [bZ];simp [Addr.add];try omega
         subst bZ
         have gp:=run_copy_cells (P:=E.P) w t t o.type e dH p.lo.toNat (p.hi.toNat - p.lo.toNat) bO dR m.length cm (news.take (p.hi - p.lo).toNat) hu Hd (by rw [qH,ak]) (fun j u aJ=>by
          rw [List.getElem?_take] at aJ
          split at aJ
          · exact b' j u aJ
          · cases aJ) (fun j aJ=>hv _ (by rw [qH,ak] at aJ;have e:Nat.min m.length (p.hi.toNat - p.lo.toNat)=min m.length (p.hi.toNat - p.lo.toNat):=rfl;omega)) (fun j _=>MR _) (fun v aj=>gQ v (List.mem_of_mem_take aj))
         rw [<-qH]
         simp only [bj,execOp,aC,resolve,invoke,builtin,Sem.run_bind,Sem.run_pure,Result.andThen_ok,List.map_toArray,List.map_cons,List.map_nil,ao,s1,gp]
         rfl
   · exact h.elim
 · exact h.elim
theorem ai9 (ah:aZ E) (hm:Mem E.T W aD X bl ρ w) {o:Oper} {t:Nat} {x:Operand} {u:aK E.T.El} {r:dV E.T.El} (h:(K0 E bl t u).out r) (aC:o.op= .call { callee:=.builtin .clear,args:=#[x],argTypes:=#[t] })
 (af:aB E.T (bs X bl ρ w) w ρ bl u (a.eval x)):fJ E o a W aD X bl ρ w r:=by
 unfold K0 at h
 split at h
 · rename_i e n b8 p he aP
   obtain ⟨hu,i0,et,iE,kX,fk,hO,VL,hb,alR⟩:=sO he
   split at h
   · rename_i g5 ai al
     simp only [Bool.and_eq_true] at ai
     have qp:(E.T.e p.t).agg=false:=by simpa using ai.2
     have aS:=Nat.eq_of_beq_eq_true ai.1.1
     have J:=Nat.eq_of_beq_eq_true ai.1.2
     subst aS
     obtain ⟨_,vG,h⟩:=h
     have bL:p.lo <p.hi:=of_decide_eq_true (OT vG)
     have h:(⟨some (.u []),bl.set p.i (.r p.t p.g (p.k+ 1) (fP p.l p.lo.toNat (List.replicate (p.hi - p.lo).toNat g5))),[p.i]⟩:dV E.T.El)=r:=h
     subst h
     obtain ⟨hi,l1,cT,ig,A,c,B,bO,bG,ao,aq⟩:=aaJ hm aP J af
     obtain ⟨fA,kS⟩:∃ fA,et.cells= #[fA]:=by
      revert VL
      generalize et.cells=cs
      obtain ⟨l⟩:=cs
      intro az
      cases l with
      | nil=>simp at az
      | cons c r=>cases r with
        | nil=>exact ⟨c,rfl⟩
        | cons _ _=>simp at az
     have fX:(E.T.ty p.t).rd (bs X bl ρ w) w [fA] g5/\et=fA:=by
      unfold rN at al
      split at al
      · rename_i Fs iF
        split at al
        · rename_i amc
          have ao:Fs=et:=by
           simp only [y7,iE] at iF
           rw [kX] at iF
           exact (Option.some.inj iF).symm
          subst ao
          have:=ah.tb.fY _ _ _ al (bs X bl ρ w) w ρ bl _ (n' _)
          rw [kS] at this
          have U6:=ade amc
          rw [qp,kS] at U6
          exact ⟨this,U6⟩
        · cases al
      · cases al
     obtain ⟨fX,DV⟩:=fX
     have vL:fA.oneCell'=true:=(E.T.ty p.t).one fX fA (by simp)
     have hN:dF (E.T.ty p.t) (bs X bl ρ w) w (List.replicate (p.hi - p.lo).toNat fA) (List.replicate (p.hi - p.lo).toNat g5):=by
      generalize (p.hi - p.lo).toNat=q
      induction q with
      | zero=>rfl
      | succ q bH=>exact ⟨[fA],List.replicate q fA,rfl,fX,bH⟩
     obtain ⟨dH,rfl,qH,hv,MR,fin⟩:=abu (o:=o) (a:=a) (q:=p.lo.toNat) hm hi bG J hN (by omega) (by rw [List.length_replicate];omega)
     refine fin (fun F w ρ bl=>by simp only [aB];exact ⟨[],rfl,by simp [bc]⟩) ?_
     have bZ:=aq bL
     have bZ:B=some ⟨dH,p.lo.toNat,none⟩:=by rw [bZ];simp [Addr.add];try omega
     subst bZ
     have gp:=Lib.run_clear_slice (P:=E.P) w t e o.type et hu (fun w=>by simp only [zeroValue,typeInfo,Sem.run_bind];simp [go_sem,iE,kX]) (by rw [kS,DV]) (by rw [DV];exact vL) dH p.lo.toNat (p.hi.toNat - p.lo.toNat) bO (by omega) (fun j aJ=>hv _ (by omega)) (fun j _=>MR _)
     have e:p.hi.toNat - p.lo.toNat=(p.hi - p.lo).toNat:=by omega
     rw [e,DV] at gp
     simp only [bj,execOp,aC,resolve,invoke,builtin,Sem.run_bind,Sem.run_pure,Result.andThen_ok,List.map_toArray,List.map_cons,List.map_nil,ao,e,gp]
   · exact h.elim
 · exact h.elim
end
end bK
namespace bK
open Go Go.RowKit ay I
def Gq (E:Env) (bl:List (aI E.T.El)) (f:cI E.T.El) (cur:List (Nat × Bool)):Op->D (dV E.T.El)
 | .alloc t=>match w8 E.P t with
   | some z=>.ok ⟨some (.b bl.length 0),bl++[.c t (z.map .p)],[]⟩
   | none=>.no
 | .box t x=>match cX E bl f cur x with
   | some y=>.ok ⟨some (.b bl.length 0),bl++[.c t (cellsOf y)],[]⟩
   | none=>.no
 | .makeMap t none=>match mapOf E.P t with
   | some (k,e)=>match (E.T.e k).key with
     | some _=>.ok ⟨some (.m bl.length),bl++[.m k e []],[]⟩
     | none=>.no
   | none=>.no
 | .store t p x=>match cX E bl f cur p,cX E bl f cur x with
   | some u,some v=>Lc E bl t u v
   | _,_=>.no
 | .mapUpdate t m k x=>match cX E bl f cur m,cX E bl f cur k,cX E bl f cur x with
   | some u,some v,some z=>Gr E bl t u v z
   | _,_,_=>.no
 | .insert t m k x=>match cX E bl f cur m,cX E bl f cur k,cX E bl f cur x with
   | some u,some v,some z=>Gr E bl t u v z
   | _,_,_=>.no
 | .buildSlice t n ⟨ps⟩=>match yr E bl f cur ps with
   | some ys=>K5 E bl t n ys
   | none=>.no
 | .makeSlice t x y=>match cX E bl f cur x with
   | some u=>K_ E bl t x y u
   | none=>.no
 | .convert s d x=>match cX E bl f cur x with
   | some u=>Ld E bl s d u
   | none=>.no
 | .call ⟨.builtin .append,⟨[x,y]⟩,⟨[t,t']⟩⟩=>match Nat.beq t t',cX E bl f cur x,cX E bl f cur y with
   | true,some u,some v=>KW E bl t u v
   | false,some u,some v=>KX E bl t t' u v
   | _,_,_=>.no
 | .call ⟨.builtin .copy,⟨[x,y]⟩,⟨[t,t']⟩⟩=>match Nat.beq t t',cX E bl f cur x,cX E bl f cur y with
   | true,some u,some v=>K1 E bl t u v
   | _,_,_=>.no
 | .call ⟨.builtin .clear,⟨[x]⟩,⟨[t]⟩⟩=>match cX E bl f cur x with
   | some u=>K0 E bl t u
   | none=>.no
 | _=>.no
section
variable {E:Env} {W w w':World} {aD:List Nat} {X:Nat->Prop} {n:cQ} {f:cI E.T.El} {bl:List (aI E.T.El)} {ρ:List Value} {a:Act} {cur:List (Nat × Bool)}
theorem ajb (ah:aZ E) (h:R E W aD X n f bl ρ a w) (hc:hK a cur) {o:Oper} {op:Op} (aC:o.op=op) {r:dV E.T.El} (al:(Gq E bl f cur op).out r):fJ E o a W aD X bl ρ w r:=by
 unfold Gq at al
 split at al
 · rename_i t
   split at al
   · rename_i z J
     have al:(⟨some (.b bl.length 0),bl++[.c t (z.map .p)],[]⟩:dV E.T.El)=r:=al
     subst al
     obtain ⟨et,bt,bu⟩:=Fq J
     exact Z_ h.mem (n' z) (uL bt bu aC)
   · exact al.elim
 · rename_i t x
   split at al
   · rename_i y J
     have al:(⟨some (.b bl.length 0),bl++[.c t (cellsOf y)],[]⟩:dV E.T.El)=r:=al
     subst al
     exact Z_ h.mem (lq (c9 h hc J)) (JL (v:=a.eval x) (by simp) aC rfl)
   · exact al.elim
 · rename_i t
   split at al
   · rename_i k e J
     split at al
     · rename_i K aa
       have al:(⟨some (.m bl.length),bl++[.m k e []],[]⟩:dV E.T.El)=r:=al
       subst al
       exact aoF h.mem aa (ayG aC)
     · exact al.elim
   · exact al.elim
 · split at al
   · rename_i u v J aa
     exact ajn ah h.mem al aC (c9 h hc J) (c9 h hc aa)
   · exact al.elim
 · split at al
   · rename_i u v z J aa az
     exact Un ah h.mem al (.inl aC) (c9 h hc J) (c9 h hc aa) (c9 h hc az)
   · exact al.elim
 · split at al
   · rename_i u v z J aa az
     exact Un ah h.mem al (.inr aC) (c9 h hc J) (c9 h hc aa) (c9 h hc az)
   · exact al.elim
 · split at al
   · rename_i ys J
     exact aje ah h.mem al aC (OZ h hc J)
   · exact al.elim
 · split at al
   · rename_i u J
     exact ajj ah h.mem al aC (c9 h hc J)
   · exact al.elim
 · split at al
   · rename_i u J
     exact ajo ah h.mem al aC (c9 h hc J)
   · exact al.elim
 · rename_i x y t t'
   split at al
   · rename_i u v J aa az
     have:=Nat.eq_of_beq_eq_true J
     subst this
     exact ai6 ah h.mem al aC (c9 h hc aa) (c9 h hc az)
   · rename_i u v J aa az
     exact ai5 ah h.mem al aC (c9 h hc aa) (c9 h hc az)
   · exact al.elim
 · rename_i x y t t'
   split at al
   · rename_i u v J aa az
     have:=Nat.eq_of_beq_eq_true J
     subst this
     exact ai_ ah h.mem al aC (c9 h hc aa) (c9 h hc az)
   · exact al.elim
 · split at al
   · rename_i u J
     exact ai9 ah h.mem al aC (c9 h hc J)
   · exact al.elim
 · exact al.elim
end
inductive FF
 | q
 | e
 | c
 | no
def Hz (P:Program):Op->FF
 | .call c=>match c.callee with
   | .value _=>.c
   | .builtin .len=>.q
   | .builtin .cap=>.q
   | .builtin .append=>.e
   | .builtin .copy=>.e
   | .builtin .clear=>.e
   | _=>.no
 | .alloc _ | .box _ _ | .makeMap _ _ | .store _ _ _ | .mapUpdate _ _ _ _ | .insert _ _ _ _ | .buildSlice _ _ _ | .makeSlice _ _ _=>.e
 | .convert s _ _=>match P.underlying s with
   | some .string=>.e
   | _=>.q
 | .move _ | .assign _ | .pick _ _ _ | .binOp _ _ _ _ _ | .unOp _ _ _ | .load _ _ | .fieldAddr _ _ _ | .nilCheck _ | .extract _ _ | .makeFunc _ _ _ | .makeInterface _ _ | .indexAddr _ _ _ | .index _ _ _
   | .slice _ _ _ _ _ | .lookup _ _ _ _ | .field _ _ _ | .build _ _=>.q
 | _=>.no
inductive R0
 | run
 | skip
 | maybe (bA:Nat) (want b:Bool)
 | cond (bA:Nat) (want:Bool)
 | no
def xx:Bool->Bool->Bool
 | true,true=>true
 | false,false=>true
 | _,_=>false
theorem sF {a b:Bool}:xx a b=true ↔ a=b:=by cases a <;> cases b <;> simp [xx]
def GL (E:Env) (ops:Array Oper) (f:cI E.T.El) (n:Nat):Option (Nat × Bool)->R0
 | none=>.run
 | some (j,want)=>match C5 ops j with
   | none=>.no
   | some bA=>match Nat.blt bA n with
     | false=>.no
     | true=>match ep f.dP bA with
       | some b=>match xx b want with
         | true=>.run
         | false=>.skip
       | none=>match ep f.bd bA with
         | some (.p (.tuple ⟨[]⟩))=>.skip
         | some (.p (.bool b))=>match E.fL with
           | true=>match xx b want with
             | true=>.run
             | false=>.skip
           | false=>.maybe bA want b
         | some _=>.no
         | none=>.cond bA want
section
variable {E:Env} {W w w':World} {aD:List Nat} {X:Nat->Prop} {n:cQ} {f:cI E.T.El} {bl:List (aI E.T.El)} {ρ:List Value} {a:Act} {cur:List (Nat × Bool)} {ops:Array Oper} {o:Oper}
theorem aws {j bA:Nat} {want:Bool} (ar:a.tmps.size=n.n) (aA:o.guard=some (j,want)) (aJ:(ops[j]?).bind (·.dst)=some bA) (aS:Nat.blt bA n.n=true) :
 Region.wanted o (yielded ops a.tmps)=true ↔ a.tmps.getD bA undef= .bool want:=by
 have bL:bA <n.n:=Nat.le_of_ble_eq_true aS
 have aa:a.tmps[bA]? =some (a.tmps.getD bA undef):=by
  rw [Array.getElem?_eq_getElem (by omega)]
  simp [Array.getD_eq_getD_getElem?,ar,bL]
 simp only [Region.wanted,aA,yielded,aJ,Option.bind_some,aa,beq_iff_eq]
 constructor
 · intro h
   split at h
   · rename_i b ai
     simp only [Option.some.injEq] at h ai
     rw [ai,h]
   · cases h
 · intro h
   rw [h]
def adl (E:Env) (ops:Array Oper) (o:Oper) (a:Act) (f:cI E.T.El) (n:Nat):R0->Prop
 | .run=>Region.wanted o (yielded ops a.tmps)=true
 | .skip=>Region.wanted o (yielded ops a.tmps)=false
 | .maybe bA want b=>Nat.blt bA n=true/\a.tmps.getD bA undef= .bool b/\(Region.wanted o (yielded ops a.tmps)=true ↔ a.tmps.getD bA undef= .bool want)
 | .cond bA want=>Nat.blt bA n=true/\(Region.wanted o (yielded ops a.tmps)=true ↔ a.tmps.getD bA undef= .bool want)
 | .no=>True
theorem UP (h:R E W aD X n f bl ρ a w):adl E ops o a f n.n (GL E ops f n.n o.guard):=by
 have ar:=h.fW.hr.size
 cases aA:o.guard with
 | none=>exact Jn aA
 | some p=>
   obtain ⟨j,want⟩:=p
   simp only [GL]
   split
   · trivial
   · rename_i bA oV
     have vy:=U3 oV
     split
     · trivial
     · rename_i aS
       have hw:=aws (ops:=ops) (o:=o) ar aA vy aS
       split
       · rename_i b ak
         have e:=h.fW.dP _ (mK ak)
         split
         · rename_i ai
           rw [sF] at ai
           subst ai
           exact hw.2 e
         · rename_i ai
           refine (Bool.eq_false_iff).2 fun af=>?_
           have:=hw.1 af
           rw [e] at this
           injection this with this
           rw [sF.2 this] at ai
           cases ai
       · split
         · rename_i ag
           have e:=h.fW.hr.get _ _ ag
           simp only [aB] at e
           refine (Bool.eq_false_iff).2 fun af=>?_
           have:=hw.1 af
           rw [e] at this
           cases this
         · rename_i b ag
           have e:=h.fW.hr.get _ _ ag
           simp only [aB] at e
           split
           · split
             · rename_i ai
               rw [sF] at ai
               subst ai
               exact hw.2 e
             · rename_i ai
               refine (Bool.eq_false_iff).2 fun af=>?_
               have:=hw.1 af
               rw [e] at this
               injection this with this
               rw [sF.2 this] at ai
               cases ai
           · exact ⟨aS,e,hw⟩
         · trivial
         · exact ⟨aS,hw⟩
end
end bK
namespace bK
open Go Go.RowKit ay I
section
variable {α:Type} {β:Type 1}
noncomputable def oN (l:List α) (k:List α->β):β:=List.rec (motive:=fun _=>(List α->β)->β) (fun k=>k []) (fun p _ bH k=>bH fun r=>k (p::r)) l k
theorem Lu (l:List α):∀ k:List α->β,oN l k=k l:=by
 induction l with
 | nil=>exact fun k=>rfl
 | cons p r bH=>exact fun k=>bH fun r=>k (p::r)
noncomputable def mu (n:Nat) (k:Nat->β):β:=Nat.casesOn (motive:=fun _=>β) n (k 0) fun m=>k (Nat.succ m)
theorem GC (n:Nat) (k:Nat->β):mu n k=k n:=by cases n <;> rfl
noncomputable def GB (n:Int) (k:Int->β):β:=Int.casesOn (motive:=fun _=>β) n (fun m=>mu m fun m=>k (Int.ofNat m)) (fun m=>mu m fun m=>k (Int.negSucc m))
theorem UF (n:Int) (k:Int->β):GB n k=k n:=by
 cases n
 · rename_i m;exact GC m fun m=>k (Int.ofNat m)
 · rename_i m;exact GC m fun m=>k (Int.negSucc m)
noncomputable def UE (b:Bool) (k:Bool->β):β:=Bool.casesOn (motive:=fun _=>β) b (k false) (k true)
theorem ajA (b:Bool) (k:Bool->β):UE b k=k b:=by cases b <;> rfl
noncomputable def Lv (v:Value) (k:Value->β):β:=match v with
 | .int i n=>GB n fun n=>k (.int i n)
 | .bool b=>UE b fun b=>k (.bool b)
 | v=>k v
theorem ajE (v:Value) (k:Value->β):Lv v k=k v:=by
 unfold Lv
 split
 · exact UF _ _
 · exact ajA _ _
 · rfl
variable {El:Nat->Type}
noncomputable def Lw (y:aK El) (k:aK El->β):β:=match y with
 | .p v=>Lv v fun v=>k (.p v)
 | .b i o=>mu i fun i=>mu o fun o=>k (.b i o)
 | .r i g=>mu i fun i=>mu g fun g=>k (.r i g)
 | .v i g lo hi=>mu i fun i=>mu g fun g=>GB lo fun lo=>GB hi fun hi=>k (.v i g lo hi)
 | .s t l=>oN l fun l=>k (.s t l)
 | .a l=>oN l fun l=>k (.a l)
 | y=>k y
theorem ajF (y:aK El) (k:aK El->β):Lw y k=k y:=by
 unfold Lw
 split <;> simp only [ajE,GC,UF,Lu]
noncomputable def GA (B:aI El) (k:aI El->β):β:=match B with
 | .c ty cs=>oN cs fun cs=>k (.c ty cs)
 | .r t g n l=>mu g fun g=>mu n fun n=>oN l fun l=>k (.r t g n l)
 | .k t sz g cs=>mu g fun g=>oN cs fun cs=>k (.k t sz g cs)
 | .m b1 vt d=>oN d fun d=>k (.m b1 vt d)
 | B=>k B
theorem ajC (B:aI El) (k:aI El->β):GA B k=k B:=by
 unfold GA
 split <;> simp only [GC,Lu]
noncomputable def Gz (ws:List Nat) (mO:Nat) (l:List (aI El)):Nat->(List (aI El)->β)->β:=List.rec (motive:=fun _=>Nat->(List (aI El)->β)->β) (fun _ k=>k []) (fun B _ bH n k=>cond (gL ws n || Nat.ble mO n) (GA B fun B=>bH (n+ 1) fun r=>k (B::r)) (bH (n+ 1) fun r=>k (B::r))) l
theorem ajB (ws:List Nat) (mO:Nat) (l:List (aI El)):∀ (n:Nat) (k:List (aI El)->β),Gz ws mO l n k=k l:=by
 induction l with
 | nil=>exact fun n k=>rfl
 | cons B r bH=>
   intro n k
   show cond (gL ws n || Nat.ble mO n) (GA B fun B=>Gz ws mO r (n+ 1) fun r=>k (B::r)) (Gz ws mO r (n+ 1) fun r=>k (B::r))=_
   rw [ajC,bH]
   cases gL ws n || Nat.ble mO n <;> rfl
noncomputable def Lt (f:cI El) (k:cI El->β):β:=match f with
 | ⟨(d,y)::r,gs,dP⟩=>Lw y fun y=>oN r fun r=>oN gs fun gs=>oN dP fun dP=>k ⟨(d,y)::r,gs,dP⟩
 | f=>k f
theorem ajD (f:cI El) (k:cI El->β):Lt f k=k f:=by
 unfold Lt
 split <;> simp only [ajF,Lu]
end
noncomputable def wD (E:Env) {β:Type 1} (f:cI E.T.El) (k:cI E.T.El->β):β:=match E.fL with
 | true=>Lt f k
 | false=>k f
theorem Er {E:Env} {β:Type 1} (f:cI E.T.El) (k:cI E.T.El->β):wD E f k=k f:=by
 unfold wD
 split
 · exact ajD f k
 · rfl
noncomputable def Ep (E:Env) {β:Type 1} (ws:List Nat) (mO:Nat) (l:List (aI E.T.El)) (k:List (aI E.T.El)->β):β:=match E.fL with
 | true=>Gz ws mO l 0 k
 | false=>k l
theorem OW {E:Env} {β:Type 1} (ws:List Nat) (mO:Nat) (l:List (aI E.T.El)) (k:List (aI E.T.El)->β):Ep E ws mO l k=k l:=by
 unfold Ep
 split
 · exact ajB ws mO l 0 k
 · rfl
end bK
