/- Part 2 of the proof that is ended in the last text: small logic, what the functions compute, walks, plain laws. -/
import Derived.Test.YteeliipnilghaaaGreatZk1
import Derived.Lib.AppendStr
import Derived.Lib.UnsafeStr
import Derived.Lib.Builder
import Derived.Laws.Externs
import Derived.LaidEql
import Derived.WalkSmall
import Derived.Laws.IdiomCopy
import Derived.Lib.SliceRun
namespace bB
open Go Go.RowKit ax J
def ah:Value->List Nat
 | .pointer (some a)=>[a.block]
 | .map (some r)=>[r]
 | .slice (some a) _ (_+ 1)=>[a.block]
 | _=>[]
def bA {El:Nat->Type}:aJ El->Value->List Nat
 | .z _ _ _ _,_=>[]
 | .no _,_=>[]
 | _,h=>ah h
def nS {El:Nat->Type} (bl:List (aJ El)) (ρ:List Value) (k:Nat):Prop:=∃ (i:Nat) (B:aJ El) (h:Value),bl[i]? =some B/\ρ[i]? =some h/\k ∈ bA B h
def bm {El:Nat->Type} (X:Nat->Prop) (bl:List (aJ El)) (ρ:List Value) (w:World):Nat->Prop:=fun k=>¬ X k/\ ¬ nS bl ρ k/\k <w.heap.size
def rowIs (w:World) (t sz:Nat) (h:Value) (n:Nat) (xs:List Value):Prop:=w.ownsRow 0 t sz h n xs\/(n= 0 /\xs= []/\ ∃ A,h= .slice A 0 0)
section
variable (T:b6) (F:Nat->Prop) (w:World)
variable (ρ:List Value) (bl:List (aJ T.El))
def ig:aJ T.El->Value->Prop
 | .c ty cs,h=>∃ g vs,h= .pointer (some ⟨g,0,none⟩)/\w.heap[g]? =some (.cells ⟨vs⟩ ty (0,0))/\a4 T F w ρ bl cs vs
 | .r t _ _ l,h=>∃ A c xs,h= .slice A l.length c/\rowIs w t (T.ty t).size h l.length xs/\dT (T.ty t) F w xs l
 | .k t sz _ cs,h=>∃ A n c xs,h= .slice A n c/\rowIs w t sz h n xs/\a4 T F w ρ bl cs xs
 | .z t _ _ l,h=>(b3 (T.ty t)).rd F w [h] l
 | .m bT vt d,h=>∃ r,h= .map (some r)/\uN T F w bT vt r d
 | .o Rt,h=>∃ g,h= .pointer (some ⟨g,0,none⟩)/\w.heap[g]? =some Rt
 | .no _,_=>True
end
section
variable {T:b6} {F F':Nat->Prop} {w w':World} {ρ ρ':List Value} {bl bl':List (aJ T.El)}
theorem rowIs.len {t sz n:Nat} {h:Value} {xs:List Value} (e:rowIs w t sz h n xs):xs.length=n*sz:=by
 rcases e with e | ⟨rfl,rfl,_⟩
 · exact e.1
 · simp
theorem rowIs.own {t sz n:Nat} {h:Value} {xs:List Value} (e:rowIs w t sz h n xs) (aF:0 <n):w.ownsRow 0 t sz h n xs:=by
 rcases e with e | ⟨rfl,_⟩
 · exact e
 · omega
theorem rowIs.cap {t sz n c:Nat} {A:Option Addr} {xs:List Value} (e:rowIs w t sz (.slice A n c) n xs):n<=c/\c<=maxLen/\(A=none->c= 0)/\(0 <c-> ∃ g,A=some ⟨g,0,none⟩):=by
 rcases e with e | ⟨rfl,_,cR,e⟩
 · rcases e.2 with ⟨I,aP⟩ | ⟨g,cap,cur,I,_,_,aa,au,_⟩
   · simp only [Value.slice.injEq] at I
     obtain ⟨rfl,rfl,rfl⟩:=I
     exact ⟨Nat.le_refl _,Nat.zero_le _,fun _=>rfl,fun h=>by omega⟩
   · simp only [Value.slice.injEq] at I
     obtain ⟨rfl,_,rfl⟩:=I
     exact ⟨aa,au,(fun h=>by cases h),fun _=>⟨g,rfl⟩⟩
 · simp only [Value.slice.injEq] at e
   obtain ⟨rfl,_,rfl⟩:=e
   exact ⟨Nat.le_refl _,Nat.zero_le _,fun _=>rfl,fun h=>by omega⟩
theorem rowIs.later {t sz n c:Nat} {A:Option Addr} {xs:List Value} (e:rowIs w t sz (.slice A n c) n xs) (ao:∀ k ∈ ah (.slice A n c),w'.heap[k]? =w.heap[k]?):rowIs w' t sz (.slice A n c) n xs:=by
 cases c with
 | zero=>
   have I:=e.cap.1
   have aa:=e.len
   have aF:n= 0 :=by omega
   subst aF
   exact .inr ⟨rfl,List.eq_nil_of_length_eq_zero (by rw [aa];simp),A,rfl⟩
 | succ c=>
   rcases e with e | ⟨rfl,_,cR,e⟩
   · left
     have:=(a7.row t sz (.slice A n (c+ 1)) (List.replicate n ()) xs).law w w' (fun k ai=>ao k (by cases A with | none=>simp [a7.row,Value.ownBlock] at ai | some a=>simpa [ah,a7.row,Value.ownBlock] using ai))
     simpa [a7.row] using this (by simpa [a7.row] using e)
   · simp at e
theorem ig.later (aI:∀ k,F k->F' k/\w'.heap[k]? =w.heap[k]?) (ap:lN T ρ ρ' bl bl') {B:aJ T.El} {h:Value} (ao:∀ k ∈ bA B h,w'.heap[k]? =w.heap[k]?) (bS:ig T F w ρ bl B h):ig T F' w' ρ' bl' B h:=by
 cases B with
 | c ty cs=>
   obtain ⟨g,vs,rfl,aa,au⟩:=bS
   exact ⟨g,vs,rfl,(ao g (by simp [bA,ah])).trans aa,a4.later aI ap cs au⟩
 | r t g k l=>
   obtain ⟨A,c,xs,rfl,aa,au⟩:=bS
   exact ⟨A,c,xs,rfl,aa.later ao,mu _ aI au⟩
 | k t sz g cs=>
   obtain ⟨A,n,c,xs,rfl,aa,au⟩:=bS
   exact ⟨A,n,c,xs,rfl,aa.later ao,a4.later aI ap cs au⟩
 | z t g k l=>exact (b3 (T.ty t)).law aI bS
 | m bT vt d=>
   obtain ⟨r,rfl,aa⟩:=bS
   exact ⟨r,rfl,aa.law aI (ao r (by simp [bA,ah]))⟩
 | o Rt=>
   obtain ⟨g,rfl,aa⟩:=bS
   exact ⟨g,rfl,(ao g (by simp [bA,ah])).trans aa⟩
 | no g=>trivial
end
structure Mem (T:b6) (W:World) (M0:List Nat) (X:Nat->Prop) (bl:List (aJ T.El)) (ρ:List Value) (w:World):Prop where
 b_:br M0 W w
 len:ρ.length=bl.length
 hC:∀ k,X k->k <W.heap.size/\k ∉ M0
 lt:∀ k,nS bl ρ k->k <w.heap.size/\(k ∈ M0\/W.heap.size<=k)
 bu:∀ (i j:Nat) (B C:aJ T.El) (h g:Value),bl[i]? =some B->ρ[i]? =some h->bl[j]? =some C->ρ[j]? =some g->i≠j-> ∀ k ∈ bA B h,k ∉ bA C g
 ok:∀ (i:Nat) (B:aJ T.El) (h:Value),bl[i]? =some B->ρ[i]? =some h->ig T (bm X bl ρ w) w ρ bl B h
section
variable {T:b6} {W w w':World} {M0:List Nat} {X:Nat->Prop} {bl bl':List (aJ T.El)} {ρ ρ':List Value}
abbrev Mem.F (_:Mem T W M0 X bl ρ w):Nat->Prop:=bm X bl ρ w
structure To (X:Nat->Prop) (bl bl':List (aJ T.El)) (ρ ρ':List Value) (w w':World):Prop where
 F:∀ k,bm X bl ρ w k->bm X bl' ρ' w' k/\w'.heap[k]? =w.heap[k]?
 L:lN T ρ ρ' bl bl'
 sz:w.heap.size<=w'.heap.size
 n_:∀ (i:Nat) (B':aJ T.El) (h':Value),bl'[i]? =some B'->ρ'[i]? =some h'-> ∀ k ∈ bA B' h',k <w.heap.size-> ∃ B h,bl[i]? =some B/\ρ[i]? =some h/\k ∈ bA B h
theorem To.v (h:To X bl bl' ρ ρ' w w') {y:aL T.El} {v:Value} (af:aw T (bm X bl ρ w) w ρ bl y v):aw T (bm X bl' ρ' w') w' ρ' bl' y v:=af.later h.F h.L
theorem To.vs (h:To X bl bl' ρ ρ' w w') {y:List (aL T.El)} {v:List Value} (af:a4 T (bm X bl ρ w) w ρ bl y v):a4 T (bm X bl' ρ' w') w' ρ' bl' y v:=a4.later h.F h.L y af
theorem To.trans {sn:List (aJ T.El)} {Dh:List Value} {w'':World} (h:To X bl bl' ρ ρ' w w') (k:To X bl' sn ρ' Dh w' w''):To X bl sn ρ Dh w w'':=
 ⟨fun q aS=>⟨(k.F q (h.F q aS).1).1,((k.F q (h.F q aS).1).2).trans (h.F q aS).2⟩,h.L.trans k.L,Nat.le_trans h.sz k.sz,fun i B' h' hi bz q aS bx=>by
  obtain ⟨xG,I,ak,al,aT⟩:=k.n_ i B' h' hi bz q aS (Nat.lt_of_lt_of_le bx h.sz)
  exact h.n_ i xG I ak al q aT bx⟩
theorem To.refl:To X bl bl ρ ρ w w:=⟨fun _ h=>⟨h,rfl⟩,.refl,Nat.le_refl _,fun _ B h hi bz _ ai _=>⟨B,h,hi,bz,ai⟩⟩
theorem Mem.BW (hm:Mem T W M0 X bl ρ w) {i:Nat} {B:aJ T.El} (hi:bl[i]? =some B):∃ h,ρ[i]? =some h:=by
 have:=(List.getElem?_eq_some_iff.1 hi).1
 exact ⟨ρ[i]'(by rw [hm.len];exact this),List.getElem?_eq_getElem _⟩
theorem Mem.CG (af:br [] w w'):To X bl bl ρ ρ w w':=⟨fun k ai=>⟨⟨ai.1,ai.2.1,Nat.lt_of_lt_of_le ai.2.2 af.size⟩,af.block k ai.2.2 (by simp)⟩,.refl,af.size,fun _ B h hi bz _ ai _=>⟨B,h,hi,bz,ai⟩⟩
theorem Mem.fg (hm:Mem T W M0 X bl ρ w) (af:br [] w w'):Mem T W M0 X bl ρ w':=
 ⟨hm.b_.trans af (by simp),hm.len,hm.hC,fun k ai=>⟨Nat.lt_of_lt_of_le (hm.lt k ai).1 af.size,(hm.lt k ai).2⟩,hm.bu,fun i B h hi bz=>(hm.ok i B h hi bz).later (Mem.CG af).F .refl fun k ai=>af.block k (hm.lt k ⟨i,B,h,hi,bz,ai⟩).1 (by simp)⟩
theorem Mem.CH (hm:Mem T W M0 X bl ρ w) {i:Nat} {B B':aJ T.El} {h h':Value} (hi:bl[i]? =some B) (bz:ρ[i]? =some h) (af:br (bA B h) w w')
 (ag:∀ k ∈ bA B' h',k ∈ bA B h\/(w.heap.size<=k/\k <w'.heap.size))
 (ap:(¬ mg h->h'=h)/\b4 (some B)<=b4 (some B')/\(b4 (some B')=b4 (some B)->h'=h/\ix T (some B')=ix T (some B)/\gA (some B)<=gA (some B')/\(gA (some B')=gA (some B)->p6 (some B')=p6 (some B)))) :
 To X bl (bl.set i B') ρ (ρ.set i h') w w':=by
 have l1:=(List.getElem?_eq_some_iff.1 hi).1
 have cp:=(List.getElem?_eq_some_iff.1 bz).1
 refine ⟨fun k ai=>⟨⟨ai.1,?_,Nat.lt_of_lt_of_le ai.2.2 af.size⟩,af.block k ai.2.2 fun ad=>ai.2.1 ⟨i,B,h,hi,bz,ad⟩⟩,⟨fun j u az=>?_⟩,af.size,fun j C g az ay k ai bx=>?_⟩
 · rintro ⟨j,C,g,az,ay,cQ⟩
   by_cases e:j=i
   · subst e
     rw [List.getElem?_set_self l1] at az
     rw [List.getElem?_set_self cp] at ay
     cases az;cases ay
     rcases ag k cQ with e | e
     · exact ai.2.1 ⟨j,B,h,hi,bz,e⟩
     · have:=ai.2.2;omega
   · rw [List.getElem?_set_ne (Ne.symm e)] at az ay
     exact ai.2.1 ⟨j,C,g,az,ay,cQ⟩
 · by_cases e:j=i
   · subst e
     rw [bz] at az
     cases az
     refine ⟨h',List.getElem?_set_self cp,?_⟩
     rw [List.getElem?_set_self l1,hi]
     exact ap
   · refine ⟨u,by rw [List.getElem?_set_ne (Ne.symm e)];exact az,fun _=>rfl,?_⟩
     rw [List.getElem?_set_ne (Ne.symm e)]
     exact ⟨Nat.le_refl _,fun _=>⟨rfl,rfl,Nat.le_refl _,fun _=>rfl⟩⟩
 · by_cases e:j=i
   · subst e
     rw [List.getElem?_set_self l1] at az
     rw [List.getElem?_set_self cp] at ay
     cases az;cases ay
     rcases ag k ai with e | e
     · exact ⟨B,h,hi,bz,e⟩
     · omega
   · rw [List.getElem?_set_ne (Ne.symm e)] at az ay
     exact ⟨C,g,az,ay,ai⟩
theorem Mem.eb (hm:Mem T W M0 X bl ρ w) {i:Nat} {B B':aJ T.El} {h h':Value} (hi:bl[i]? =some B) (bz:ρ[i]? =some h) (af:br (bA B h) w w')
 (ag:∀ k ∈ bA B' h',k ∈ bA B h\/(w.heap.size<=k/\k <w'.heap.size)) (aM:To X bl (bl.set i B') ρ (ρ.set i h') w w')
 (bS:ig T (bm X (bl.set i B') (ρ.set i h') w') w' (ρ.set i h') (bl.set i B') B' h'):Mem T W M0 X (bl.set i B') (ρ.set i h') w':=by
 have l1:=(List.getElem?_eq_some_iff.1 hi).1
 have cp:=(List.getElem?_eq_some_iff.1 bz).1
 have key:∀ {j:Nat} {C:aJ T.El} {g:Value},(bl.set i B')[j]? =some C->(ρ.set i h')[j]? =some g->(j=i/\C=B'/\g=h')\/(j≠i/\bl[j]? =some C/\ρ[j]? =some g):=fun {j C g} az ay=>by
  by_cases e:j=i
  · subst e
    rw [List.getElem?_set_self l1] at az
    rw [List.getElem?_set_self cp] at ay
    cases az;cases ay
    exact .inl ⟨rfl,rfl,rfl⟩
  · rw [List.getElem?_set_ne (Ne.symm e)] at az ay
    exact .inr ⟨e,az,ay⟩
 refine ⟨hm.b_.trans af fun k ai=>(hm.lt k ⟨i,B,h,hi,bz,ai⟩).2,by simp [hm.len],hm.hC,?_,?_,?_⟩
 · rintro k ⟨j,C,g,az,ay,ai⟩
   rcases key az ay with ⟨rfl,rfl,rfl⟩ | ⟨_,I,aa⟩
   · rcases ag k ai with e | e
     · have:=hm.lt k ⟨j,B,h,hi,bz,e⟩
       exact ⟨Nat.lt_of_lt_of_le this.1 af.size,this.2⟩
     · exact ⟨e.2,.inr (Nat.le_trans hm.b_.size e.1)⟩
   · have:=hm.lt k ⟨j,C,g,I,aa,ai⟩
     exact ⟨Nat.lt_of_lt_of_le this.1 af.size,this.2⟩
 · intro a b C D g u aD ay fN hu b5 k ai cQ
   rcases key aD ay with ⟨rfl,rfl,rfl⟩ | ⟨ak,I,aa⟩
   · rcases key fN hu with ⟨rfl,_⟩ | ⟨al,bj,bk⟩
     · exact b5 rfl
     · rcases ag k ai with e | e
       · exact hm.bu _ _ _ _ _ _ hi bz bj bk b5 k e cQ
       · have:=(hm.lt k ⟨b,D,u,bj,bk,cQ⟩).1;omega
   · rcases key fN hu with ⟨rfl,rfl,rfl⟩ | ⟨al,bj,bk⟩
     · rcases ag k cQ with e | e
       · exact hm.bu _ _ _ _ _ _ I aa hi bz b5 k ai e
       · have:=(hm.lt k ⟨a,C,g,I,aa,ai⟩).1;omega
     · exact hm.bu _ _ _ _ _ _ I aa bj bk b5 k ai cQ
 · intro j C g az ay
   rcases key az ay with ⟨rfl,rfl,rfl⟩ | ⟨ak,I,aa⟩
   · exact bS
   · exact (hm.ok j C g I aa).later aM.F aM.L fun k ai=>af.block k (hm.lt k ⟨j,C,g,I,aa,ai⟩).1 fun ad=>hm.bu _ _ _ _ _ _ I aa hi bz ak k ai ad
theorem Mem.w2 (hm:Mem T W M0 X bl ρ w) {B:aJ T.El} {h:Value} (af:br [] w w') (ag:∀ k ∈ bA B h,w.heap.size<=k/\k <w'.heap.size):To X bl (bl++[B]) ρ (ρ++[h]) w w':=by
 refine ⟨fun k ai=>⟨⟨ai.1,?_,Nat.lt_of_lt_of_le ai.2.2 af.size⟩,af.block k ai.2.2 (by simp)⟩,⟨fun j u az=>?_⟩,af.size,fun j C g az ay k ai bx=>?_⟩
 · rintro ⟨j,C,g,az,ay,cQ⟩
   rcases Nat.lt_or_ge j bl.length with e | e
   · rw [List.getElem?_append_left e] at az
     rw [List.getElem?_append_left (by rw [hm.len];exact e)] at ay
     exact ai.2.1 ⟨j,C,g,az,ay,cQ⟩
   · rw [List.getElem?_append_right e] at az
     rw [List.getElem?_append_right (by rw [hm.len];exact e),hm.len] at ay
     cases aN:j - bl.length with
     | zero=>
       rw [aN] at az ay
       simp only [List.getElem?_cons_zero,Option.some.injEq] at az ay
       subst az;subst ay
       have:=(ag k cQ).1
       have:=ai.2.2
       omega
     | succ q=>rw [aN] at az;simp at az
 · have e:=(List.getElem?_eq_some_iff.1 az).1
   have e':j <bl.length:=by rw [<-hm.len];exact e
   refine ⟨u,by rw [List.getElem?_append_left e];exact az,fun _=>rfl,?_⟩
   rw [List.getElem?_append_left e']
   exact ⟨Nat.le_refl _,fun _=>⟨rfl,rfl,Nat.le_refl _,fun _=>rfl⟩⟩
 · rcases Nat.lt_or_ge j bl.length with e | e
   · rw [List.getElem?_append_left e] at az
     rw [List.getElem?_append_left (by rw [hm.len];exact e)] at ay
     exact ⟨C,g,az,ay,ai⟩
   · rw [List.getElem?_append_right e] at az
     rw [List.getElem?_append_right (by rw [hm.len];exact e),hm.len] at ay
     cases aN:j - bl.length with
     | zero=>
       rw [aN] at az ay
       simp only [List.getElem?_cons_zero,Option.some.injEq] at az ay
       subst az;subst ay
       have:=(ag k ai).1
       omega
     | succ q=>rw [aN] at az;simp at az
theorem Mem.push (hm:Mem T W M0 X bl ρ w) {B:aJ T.El} {h:Value} (af:br [] w w') (ag:∀ k ∈ bA B h,w.heap.size<=k/\k <w'.heap.size)
 (bS:ig T (bm X (bl++[B]) (ρ++[h]) w') w' (ρ++[h]) (bl++[B]) B h):Mem T W M0 X (bl++[B]) (ρ++[h]) w':=by
 have aM:=hm.w2 af ag (B:=B) (h:=h)
 have key:∀ {j:Nat} {C:aJ T.El} {g:Value},(bl++[B])[j]? =some C->(ρ++[h])[j]? =some g->(j=bl.length/\C=B/\g=h)\/(j <bl.length/\bl[j]? =some C/\ρ[j]? =some g):=fun {j C g} az ay=>by
  rcases Nat.lt_or_ge j bl.length with e | e
  · rw [List.getElem?_append_left e] at az
    rw [List.getElem?_append_left (by rw [hm.len];exact e)] at ay
    exact .inr ⟨e,az,ay⟩
  · rw [List.getElem?_append_right e] at az
    rw [List.getElem?_append_right (by rw [hm.len];exact e),hm.len] at ay
    cases aN:j - bl.length with
    | zero=>
      rw [aN] at az ay
      simp only [List.getElem?_cons_zero,Option.some.injEq] at az ay
      exact .inl ⟨by omega,az.symm,ay.symm⟩
    | succ q=>rw [aN] at az;simp at az
 refine ⟨hm.b_.trans af (by simp),by simp [hm.len],hm.hC,?_,?_,?_⟩
 · rintro k ⟨j,C,g,az,ay,ai⟩
   rcases key az ay with ⟨rfl,rfl,rfl⟩ | ⟨_,I,aa⟩
   · exact ⟨(ag k ai).2,.inr (Nat.le_trans hm.b_.size (ag k ai).1)⟩
   · have:=hm.lt k ⟨j,C,g,I,aa,ai⟩
     exact ⟨Nat.lt_of_lt_of_le this.1 af.size,this.2⟩
 · intro a b C D g u aD ay fN hu b5 k ai cQ
   rcases key aD ay with ⟨rfl,rfl,rfl⟩ | ⟨ak,I,aa⟩
   · rcases key fN hu with ⟨rfl,_⟩ | ⟨al,bj,bk⟩
     · exact b5 rfl
     · have:=(hm.lt k ⟨b,D,u,bj,bk,cQ⟩).1
       have:=(ag k ai).1
       omega
   · rcases key fN hu with ⟨rfl,rfl,rfl⟩ | ⟨al,bj,bk⟩
     · have:=(hm.lt k ⟨a,C,g,I,aa,ai⟩).1
       have:=(ag k cQ).1
       omega
     · exact hm.bu _ _ _ _ _ _ I aa bj bk b5 k ai cQ
 · intro j C g az ay
   rcases key az ay with ⟨rfl,rfl,rfl⟩ | ⟨ak,I,aa⟩
   · exact bS
   · exact (hm.ok j C g I aa).later aM.F aM.L fun k ai=>af.block k (hm.lt k ⟨j,C,g,I,aa,ai⟩).1 (by simp)
end
def eI {α:Type}:List (Nat × α)->Nat->Option α
 | [],_=>none
 | p::r,t=>match Nat.beq p.1 t with
   | true=>some p.2
   | false=>eI r t
structure qo (T:b6) (F:Nat->Prop) (w:World) (ρ:List Value) (bl:List (aJ T.El)) (n:cN) (a_:List (Nat × aL T.El)) (a:Act):Prop where
 size:a.tmps.size=n.n
 defers:a.defers=n.ds
 get:∀ t y,eI a_ t=some y->aw T F w ρ bl y (a.tmps.getD t undef)
section
variable {T:b6} {F F':Nat->Prop} {w w':World} {ρ ρ':List Value} {bl bl':List (aJ T.El)} {n:cN} {a_:List (Nat × aL T.El)} {a:Act}
theorem qo.later (aI:∀ k,F k->F' k/\w'.heap[k]? =w.heap[k]?) (ap:lN T ρ ρ' bl bl') (h:qo T F w ρ bl n a_ a):qo T F' w' ρ' bl' n a_ a:=⟨h.size,h.defers,fun t y hy=>(h.get t y hy).later aI ap⟩
theorem yC {a:Act} {d t:Nat} {v:Value} (aN:d <a.tmps.size):(a.put (some d) v).tmps.getD t undef=if d=t then v else a.tmps.getD t undef:=by
 simp only [Act.put,Array.getD_eq_getD_getElem?,Array.getElem?_setIfInBounds]
 by_cases e:d=t
 · subst e;simp [aN]
 · simp [e]
theorem qo.put {d:Nat} {y:aL T.El} {v:Value} (h:qo T F w ρ bl n a_ a) (aN:Nat.blt d n.n=true) (af:aw T F w ρ bl y v):qo T F w ρ bl n ((d,y)::a_) (a.put (some d) v):=by
 have bx:d <n.n:=Nat.le_of_ble_eq_true aN
 refine ⟨by simpa [Act.put] using h.size,h.defers,fun t z aj=>?_⟩
 rw [yC (by rw [h.size];exact bx)]
 simp only [eI] at aj
 cases ah:Nat.beq d t with
 | true=>
   rw [ah] at aj
   simp only [Option.some.injEq] at aj
   rw [if_pos (Nat.eq_of_beq_eq_true ah),<-aj];exact af
 | false=>
   rw [ah] at aj
   rw [if_neg (fun e=>by subst e;simp at ah)]
   exact h.get t z aj
def mw {α:Type}:List (Nat × α)->Nat->List (Nat × α)
 | [],_=>[]
 | p::r,t=>match Nat.beq p.1 t with
   | true=>mw r t
   | false=>p::mw r t
theorem Jq {α:Type} {d t:Nat} {y:α}:∀ {a_:List (Nat × α)},eI (mw a_ d) t=some y->t≠d/\eI a_ t=some y
 | [],h=>by simp [mw,eI] at h
 | p::r,h=>by
   simp only [mw] at h
   cases ah:Nat.beq p.1 d with
   | true=>
     rw [ah] at h
     obtain ⟨I,aa⟩:=Jq h
     refine ⟨I,?_⟩
     simp only [eI]
     cases hc:Nat.beq p.1 t with
     | true=>exact absurd ((Nat.eq_of_beq_eq_true hc).symm.trans (Nat.eq_of_beq_eq_true ah)) I
     | false=>exact aa
   | false=>
     rw [ah] at h
     simp only [eI] at h ⊢
     cases hc:Nat.beq p.1 t with
     | true=>
       rw [hc] at h
       refine ⟨fun e=>?_,h⟩
       rw [Nat.eq_of_beq_eq_true hc,e] at ah
       simp at ah
     | false=>rw [hc] at h;exact Jq h
theorem qo.Kx {d:Nat} {v:Value} (h:qo T F w ρ bl n a_ a) (aN:Nat.blt d n.n=true):qo T F w ρ bl n (mw a_ d) (a.put (some d) v):=by
 have bx:d <n.n:=Nat.le_of_ble_eq_true aN
 refine ⟨by simpa [Act.put] using h.size,h.defers,fun t z aj=>?_⟩
 obtain ⟨I,aa⟩:=Jq aj
 rw [yC (by rw [h.size];exact bx),if_neg (Ne.symm I)]
 exact h.get t z aa
end
end bB
namespace J
def dD {α β cw:Type} (o:Option (α ⊕ β)) (k:α->Option cw) (l:β->Option cw):Option cw:=match o with
 | none=>none
 | some (.inl a)=>k a
 | some (.inr b)=>l b
end J
namespace bB
open Go Go.RowKit ax J
inductive D (α:Type):Type 1
 | ok (a:α)
 | no
 | op {β:Type} (o:Option β) (k:β->D α)
 | n0 (c:Bool) (x y:D α)
 | rL {β cw:Type} (o:Option (β ⊕ cw)) (k:β->D α) (l:cw->D α)
def D.bind {α β:Type}:D α->(α->D β)->D β
 | .ok a,f=>f a
 | .no,_=>.no
 | .op o k,f=>.op o fun b=>(k b).bind f
 | .n0 c x y,f=>.n0 c (x.bind f) (y.bind f)
 | .rL o k l,f=>.rL o (fun b=>(k b).bind f) (fun c=>(l c).bind f)
def D.run {α ρ:Type}:D α->(α->Option ρ)->Option ρ
 | .ok a,K=>K a
 | .no,_=>none
 | .op o k,K=>o.bind fun b=>(k b).run K
 | .n0 c x y,K=>cond c (x.run K) (y.run K)
 | .rL o k l,K=>dD o (fun b=>(k b).run K) (fun c=>(l c).run K)
def D.out {α:Type}:D α->α->Prop
 | .ok b,a=>b=a
 | .no,_=>False
 | .op o k,a=>∃ b,o=some b/\(k b).out a
 | .n0 c x y,a=>(c=true/\x.out a)\/(c=false/\y.out a)
 | .rL o k l,a=>(∃ b,o=some (.inl b)/\(k b).out a)\/(∃ c,o=some (.inr c)/\(l c).out a)
theorem D.wN {α ρ:Type} {r:ρ}:∀ {d:D α} {K:α->Option ρ},d.run K=some r-> ∃ a,d.out a/\K a=some r
 | .ok a,K,h=>⟨a,rfl,h⟩
 | .no,K,h=>by cases h
 | .op o k,K,h=>by
   obtain ⟨b,I,aa⟩:=fZ h
   obtain ⟨a,au,bb⟩:=D.wN aa
   exact ⟨a,⟨b,I,au⟩,bb⟩
 | .n0 c x y,K,h=>by
   cases c with
   | true=>obtain ⟨a,au,bb⟩:=D.wN (d:=x) h;exact ⟨a,.inl ⟨rfl,au⟩,bb⟩
   | false=>obtain ⟨a,au,bb⟩:=D.wN (d:=y) h;exact ⟨a,.inr ⟨rfl,au⟩,bb⟩
 | .rL o k l,K,h=>by
   cases o with
   | none=>cases h
   | some s=>
     cases s with
     | inl b=>obtain ⟨a,au,bb⟩:=D.wN (d:=k b) h;exact ⟨a,.inl ⟨b,rfl,au⟩,bb⟩
     | inr c=>obtain ⟨a,au,bb⟩:=D.wN (d:=l c) h;exact ⟨a,.inr ⟨c,rfl,au⟩,bb⟩
theorem D.j7 {α β:Type}:∀ {d:D α} {f:α->D β} {b:β},(d.bind f).out b-> ∃ a,d.out a/\(f a).out b
 | .ok a,f,b,h=>⟨a,rfl,h⟩
 | .no,f,b,h=>h.elim
 | .op o k,f,b,h=>by
   obtain ⟨x,I,aa⟩:=h
   obtain ⟨a,au,bb⟩:=D.j7 aa
   exact ⟨a,⟨x,I,au⟩,bb⟩
 | .n0 c x y,f,b,h=>by
   rcases h with ⟨I,aa⟩ | ⟨I,aa⟩
   · obtain ⟨a,au,bb⟩:=D.j7 aa;exact ⟨a,.inl ⟨I,au⟩,bb⟩
   · obtain ⟨a,au,bb⟩:=D.j7 aa;exact ⟨a,.inr ⟨I,au⟩,bb⟩
 | .rL o k l,f,b,h=>by
   rcases h with ⟨x,I,aa⟩ | ⟨x,I,aa⟩
   · obtain ⟨a,au,bb⟩:=D.j7 aa;exact ⟨a,.inl ⟨x,I,au⟩,bb⟩
   · obtain ⟨a,au,bb⟩:=D.j7 aa;exact ⟨a,.inr ⟨x,I,au⟩,bb⟩
def D.of {α:Type}:Option α->D α
 | some a=>.ok a
 | none=>.no
theorem D.nl {α:Type} {o:Option α} {a:α} (h:(D.of o).out a):o=some a:=by
 cases o with
 | none=>exact h.elim
 | some b=>exact congrArg some h
structure Env where
 P:Program
 T:b6
 dW:List (Nat × aL T.El)
 fJ:Bool
 cx:List Nat
 ko:Nat
 HB:List UInt8->List (T.El ko)
def lay (P:Program) (t:TypeId):Option (Bool × Nat):=match P.underlying t,P.info? t with
 | some (.struct _),some i=>some (true,i.size)
 | some (.array _ _),some i=>some (true,i.size)
 | some _,some i=>some (false,i.size)
 | _,_=>none
theorem run_sizeOf {P:Program} {t:TypeId} {i:TypeInfo} (h:P.info? t=some i) (w:World):(Go.sizeOf t).run P w= .ok i.size w:=by
 simp [Go.sizeOf,typeInfo,go_sem,h]
theorem E_ {P:Program} {t:TypeId} {b:Bool} {n:Nat} (h:lay P t=some (b,n)):(∀ w,(isAgg t).run P w= .ok b w)/\ ∀ w,(Go.sizeOf t).run P w= .ok n w:=by
 unfold lay at h
 split at h
 · rename_i I aa
   simp only [Option.some.injEq,Prod.mk.injEq] at h
   obtain ⟨rfl,rfl⟩:=h
   exact ⟨fun w=>by simp [isAgg,run_underlying I],run_sizeOf aa⟩
 · rename_i I aa
   simp only [Option.some.injEq,Prod.mk.injEq] at h
   obtain ⟨rfl,rfl⟩:=h
   exact ⟨fun w=>by simp [isAgg,run_underlying I],run_sizeOf aa⟩
 · rename_i d i IX aqP I aa
   simp only [Option.some.injEq,Prod.mk.injEq] at h
   obtain ⟨rfl,rfl⟩:=h
   refine ⟨fun w=>?_,run_sizeOf aa⟩
   simp only [isAgg,Sem.run_bind,run_underlying I,Result.andThen_ok]
   cases d <;> first | rfl | (exact absurd I (by simpa using IX _)) | (exact absurd I (by simpa using aqP _ _))
 · cases h
def jJ:Option TypeDesc->Option lM
 | some (.int k)=>some (.i k)
 | some .bool=>some .b
 | some .string=>some .s
 | some (.slice _)=>some .cl
 | _=>none
theorem s7 {P:Program} {t:TypeId} {k:lM} (h:jJ (P.underlying t)=some k):k.ok P t:=by
 unfold jJ at h
 split at h <;> simp only [Option.some.injEq,reduceCtorEq] at h <;> subst h
 · rename_i h;exact h
 · rename_i h;exact h
 · rename_i h;exact h
 · rename_i e h;exact ⟨e,h⟩
def Ig (P:Program) (s j:Nat):Option (Nat × Nat × Nat):=match P.underlying s with
 | some (.struct cx)=>match nth cx.toList j with
   | some f=>match P.info? f.type with
     | some i=>match Nat.beq i.size 0 with
       | true=>none
       | false=>some (f.offset,f.type,i.size)
     | none=>none
   | none=>none
 | _=>none
theorem YC {P:Program} {s j off t n:Nat} (h:Ig P s j=some (off,t,n)):∃ cx f,P.underlying s=some (.struct cx)/\cx[j]? =some f/\f.offset=off/\f.type=t/\(∀ w,(Go.sizeOf f.type).run P w= .ok n w)/\Nat.beq n 0 =false:=by
 unfold Ig at h
 split at h
 · rename_i cx I
   split at h
   · rename_i f aa
     split at h
     · rename_i i au
       split at h
       · cases h
       · rename_i bb
         simp only [Option.some.injEq,Prod.mk.injEq] at h
         obtain ⟨rfl,rfl,rfl⟩:=h
         rw [cY,Array.getElem?_toList] at aa
         exact ⟨cx,f,I,aa,rfl,rfl,run_sizeOf au,bb⟩
     · cases h
   · cases h
 · cases h
section
variable {El:Nat->Type}
def k2 (cs:List (aL El)) (o:Nat):Bool × Nat->Option (aL El)
 | (false,_)=>nth cs o
 | (true,n)=>match Nat.ble (o+n) cs.length with
   | true=>some (.a ((cs.drop o).take n))
   | false=>none
end
section
variable {T:b6} {F:Nat->Prop} {w:World} {ρ:List Value} {bl:List (aJ T.El)} {P:Program}
theorem Ba {cs:List (aL T.El)} {o a q t:Nat} {gF:Bool × Nat} {y:aL T.El} {vs:List Value} (ap:lay P t=some gF) (h:k2 cs o gF=some y) (aB:a4 T F w ρ bl cs vs) (hc:e0 w ⟨a,q,none⟩ vs) :
 ∃ v us,aw T F w ρ bl y v/\e0 w ⟨a,q+o,none⟩ us/\ ∀ (op:Oper) (ac:Act) (x:Operand) (w':World),op.op= .load t x->ac.eval x= .pointer (some ⟨a,q+o,none⟩)->e0 w' ⟨a,q+o,none⟩ us->bh P op ac w' v w':=by
 obtain ⟨b,n⟩:=gF
 have yW:=E_ ap
 cases b with
 | false=>
   simp only [k2] at h
   rw [cY] at h
   obtain ⟨v,I,aa⟩:=aB.at_ h
   refine ⟨v,[v],aa,fun j u az=>?_,fun op ac x w' av ad mZ=>Vi yW.1 av ad (by simpa using mZ 0 v rfl)⟩
   cases j with
   | zero=>simp only [List.getElem?_cons_zero,Option.some.injEq] at az;subst az;simpa using hc o v I
   | succ j=>simp at az
 | true=>
   simp only [k2] at h
   split at h
   · rename_i ah
     simp only [Option.some.injEq] at h
     subst h
     have hle:=Nat.le_of_ble_eq_true ah
     have hlen:=aB.len
     refine ⟨.agg ⟨(vs.drop o).take n⟩,(vs.drop o).take n,?_,fun j u az=>?_,fun op ac x w' av ad mZ=>ahP yW.1 yW.2 (by simp;omega) av ad mZ⟩
     · simp only [aw]
       exact ⟨_,rfl,a4.take n (a4.drop o aB)⟩
     · rw [List.getElem?_take] at az
       split at az
       · rw [List.getElem?_drop] at az
         have:=hc (o+j) u az
         simpa [Nat.add_assoc] using this
       · cases az
   · cases h
end
end bB
namespace bB
open Go Go.RowKit ax J
structure u4 (T:b6):Prop where
 cs:∀ t d F w xs,(T.ty t).rd F w xs d->a4 T F w [] [] ((T.e t).cs d) xs
 gQ:∀ t aZ d,(T.e t).gQ aZ=some d-> ∀ F w ρ bl xs,a4 T F w ρ bl aZ xs->(T.ty t).rd F w xs d
 key:∀ t K,(T.e t).key=some K-> ∀ F w xs k,(T.ty t).rd F w xs k->wC (T.e t).agg xs= @ki.enc _ K.dec K.pH k
 one:∀ t,(T.e t).agg=false-> ∀ d,((T.e t).cs d).length= 1
def b6.val (T:b6) (t:Nat) (d:T.El t):aL T.El:=match (T.e t).agg with
 | true=>.a ((T.e t).cs d)
 | false=>((T.e t).cs d).headD (.p undef)
structure du (E:Env):Prop where
 tb:u4 E.T
 call:∀ f ∈ E.cx,∀ args w,(callFunc f args).run E.P w= .ok (.enter f args) w
 auf:E.P.follows .mixedOrders=true
 Wm:∀ l,(E.HB l).length=l.length
 al1:∀ F w l xs,dT KW F w xs l->dT (E.T.ty E.ko) F w xs (E.HB l)
 eq:∀ t f,(E.T.e t).eq=some f-> ∀ F w xs ys d e,(E.T.ty t).rd F w xs d->(E.T.ty t).rd F w ys e-> ∀ (o:Oper) (a:Act) (x y:Operand) (t':TypeId) (b:Bool),o.op= .binOp (cond b .eql .neq) t x y t'->a.eval x= .agg ⟨xs⟩->a.eval y= .agg ⟨ys⟩-> ∀ w',bh E.P o a w' (.bool (cond b (f d e) (!f d e))) w'
section
variable {T:b6} {F:Nat->Prop} {w:World} {ρ:List Value} {bl:List (aJ T.El)}
theorem atK {w:World} {F:Nat->Prop} {l:List (aL T.El)} {vs:List Value} (h:a4 T F w [] [] l vs):a4 T F w ρ bl l vs:=a4.later (fun _ h=>⟨h,rfl⟩) ⟨fun i h hi=>by simp at hi⟩ l h
theorem u4.cells (dB:u4 T) {t:Nat} {d:T.El t} {xs:List Value} (h:(T.ty t).rd F w xs d):a4 T F w ρ bl ((T.e t).cs d) xs:=atK (dB.cs t d F w xs h)
theorem u4.val (dB:u4 T) {t:Nat} {d:T.El t} {xs:List Value} (h:(T.ty t).rd F w xs d):aw T F w ρ bl (T.val t d) (wC (T.e t).agg xs):=by
 have hc:=dB.cells (ρ:=ρ) (bl:=bl) h
 unfold b6.val
 cases aD:(T.e t).agg with
 | true=>simp only [aw,wC];exact ⟨xs,rfl,hc⟩
 | false=>
   have I:=dB.one t aD d
   cases hcs:(T.e t).cs d with
   | nil=>rw [hcs] at I;simp at I
   | cons y r=>
     rw [hcs] at hc
     simp only [a4] at hc
     obtain ⟨u,us,rfl,hu,_⟩:=hc
     exact hu
def RN {El:Nat->Type}:aL El->Nat->Option (aL El)
 | .b i o,n=>some (.b i (o+n))
 | .x t d o,n=>some (.x t d (o+n))
 | .e i g k t j d o,n=>some (.e i g k t j d (o+n))
 | .w i g o,n=>some (.w i g (o+n))
 | _,_=>none
def J9 {El:Nat->Type} (gs:Nat->Nat):aL El->Bool
 | .b _ _=>true
 | .x _ _ _=>true
 | .e i g _ _ _ _ _=>Nat.beq g (gs i)
 | .w i g _=>Nat.beq g (gs i)
 | _=>false
def qO {El:Nat->Type} (bl:List (aJ El)) (i:Nat):Nat:=b4 (nth bl i)
theorem yE {El:Nat->Type} (bl:List (aJ El)) (i:Nat):qO bl i=b4 bl[i]? :=by rw [qO,cY]
theorem avG {y fD:aL T.El} {n:Nat} {v:Value} (hi:J9 (qO bl) y=true) (h:RN y n=some fD) (af:aw T F w ρ bl y v):∃ g o,v= .pointer (some ⟨g,o,none⟩)/\aw T F w ρ bl fD (.pointer (some ⟨g,o+n,none⟩)):=by
 cases y <;> simp only [RN,Option.some.injEq,reduceCtorEq] at h <;> subst h
 · simp only [aw] at af
   obtain ⟨g,I,aa⟩:=af
   refine ⟨g,_,aa,?_⟩
   simp only [aw]
   exact ⟨g,I,rfl⟩
 · simp only [aw] at af
   obtain ⟨a,q,cs,I,aa,au,bb⟩:=af
   refine ⟨a,_,I,?_⟩
   simp only [aw]
   exact ⟨a,q,cs,by rw [Nat.add_assoc],aa,au,bb⟩
 · simp only [aw] at af
   obtain ⟨_,u,I,aa,au⟩:=af
   simp only [J9] at hi
   have hi:=Nat.eq_of_beq_eq_true hi
   rw [yE] at hi
   obtain ⟨⟨A,fG,c,bj,bk,cg,c'⟩,nc,vP⟩:=au hi
   refine ⟨_,_,c',?_⟩
   simp only [aw]
   exact ⟨trivial,u,I,aa,fun _=>⟨⟨A,fG,c,bj,bk,cg,by rw [Nat.add_assoc]⟩,nc,vP⟩⟩
 · simp only [aw] at af
   obtain ⟨_,u,I,aa,au⟩:=af
   simp only [J9] at hi
   have hi:=Nat.eq_of_beq_eq_true hi
   rw [yE] at hi
   obtain ⟨A,fG,c,bj,bk,c'⟩:=au hi
   refine ⟨_,_,c',?_⟩
   simp only [aw]
   exact ⟨trivial,u,I,aa,fun _=>⟨A,fG,c,bj,bk,rfl⟩⟩
def nm {El:Nat->Type} (bl:List (aJ El)):aL El->aL El
 | .r i g=>match nth bl i with
   | some (.z t g' _ l)=>match Nat.beq g g' with
     | true=>.s t l
     | false=>.r i g
   | _=>.r i g
 | y=>y
end
section
variable {T:b6} {W w:World} {M0:List Nat} {X:Nat->Prop} {bl:List (aJ T.El)} {ρ:List Value}
theorem JU (hm:Mem T W M0 X bl ρ w) {y:aL T.El} {v:Value} (af:aw T (bm X bl ρ w) w ρ bl y v):aw T (bm X bl ρ w) w ρ bl (nm bl y) v:=by
 cases y with
 | r i g=>
   simp only [nm]
   split
   · rename_i t g' k l hi
     rw [cY] at hi
     split
     · rename_i ah
       have ah:=Nat.eq_of_beq_eq_true ah
       simp only [aw] at af ⊢
       obtain ⟨_,h,I,aa,au⟩:=af
       rw [hi] at au
       have:=au ah
       subst this
       exact hm.ok i _ _ hi I
     · exact af
   · exact af
 | _=>exact af
def Bm (E:Env) (bl:List (aJ E.T.El)) (t:Nat):aL E.T.El->D (aL E.T.El)
 | .b i o=>match nth bl i,lay E.P t with
   | some (.c _ cs),some gF=>.of (k2 cs o gF)
   | _,_=>.no
 | .x t' d o=>match lay E.P t with
   | some gF=>.of (k2 ((E.T.e t').cs d) o gF)
   | none=>.no
 | .e i g k t' j d o=>match nth bl i,lay E.P t with
   | some (.r t2 bE bk l),some gF=>match Nat.beq g bE,Nat.beq k bk with
     | true,true=>.of (k2 ((E.T.e t').cs d) o gF)
     | true,false=>.op (idx l j) fun d'=>.of (k2 ((E.T.e t2).cs d') o gF)
     | _,_=>.no
   | _,_=>.no
 | .w i g o=>match nth bl i,lay E.P t with
   | some (.k _ _ bE cs),some gF=>match Nat.beq g bE with
     | true=>.of (k2 cs o gF)
     | false=>.no
   | _,_=>.no
 | .wJ i g sz q=>match nth bl i,lay E.P t with
   | some (.r t2 bE bk l),some gF=>match Nat.beq g bE && Nat.beq sz (E.T.ty t2).size with
     | true=>.op (idx l q) fun d=>.of (k2 [.e i g bk t2 q d 0] 0 gF)
     | false=>.no
   | _,_=>.no
 | _=>.no
def QN {El:Nat->Type}:aL El->Option Nat
 | .b i _=>some i
 | .e i _ _ _ _ _ _=>some i
 | .w i _ _=>some i
 | _=>none
def Hn (X:Nat->Prop) (bl:List (aJ T.El)) (ρ:List Value) (w:World) (k:Nat):Option Nat->Prop
 | none=>bm X bl ρ w k
 | some i=>∃ B h,bl[i]? =some B/\ρ[i]? =some h/\k ∈ bA B h
def Dn (P:Program) (t:Nat) (ej:Addr) (us:List Value) (v:Value):Prop:=∀ (op:Oper) (ac:Act) (x:Operand) (w':World),op.op= .load t x->ac.eval x= .pointer (some ej)->e0 w' ej us->bh P op ac w' v w'
theorem rH {w:World} {t sz n c:Nat} {A:Option Addr} {xs:List Value} (aF:0 <n) (h:rowIs w t sz (.slice A n c) n xs):∃ g,A=some ⟨g,0,none⟩/\dm A=g/\e0 w ⟨g,0,none⟩ xs/\ ∀ m:Nat,ah (.slice A m c)= [g]:=by
 have hc:=h.cap
 have h:=h.own aF
 rcases h.2 with ⟨I,aP⟩ | ⟨g,cap,cur,I,_⟩
 · omega
 · simp only [Value.slice.injEq] at I
   obtain ⟨rfl,_,rfl⟩:=I
   refine ⟨g,rfl,rfl,fun j u az=>?_,fun m=>?_⟩
   · have im:=h.cells (g:=g) rfl j u az
     rw [jQ] at im
     exact im
   · cases c with
     | zero=>omega
     | succ c=>rfl
theorem acN {α:Type} {T:dh α} {F:Nat->Prop} {w:World} {g:Nat} {l:List α} {xs:List Value} {j:Int} {d:α} (hc:e0 w ⟨g,0,none⟩ xs) (aB:dT T F w xs l) (hi:idx l j=some d):∃ cs,T.rd F w cs d/\e0 w ⟨g,j.toNat*T.size,none⟩ cs:=by
 obtain ⟨_,_,aa⟩:=j0 hi
 obtain ⟨cs,au,bb⟩:=FV T aB aa
 refine ⟨cs,au,fun q u aS=>?_⟩
 have:=hc (j.toNat*T.size+q) u (bb q u aS)
 simpa using this
theorem aoB {E:Env} (dB:u4 E.T) {W w:World} {M0:List Nat} {X:Nat->Prop} {bl:List (aJ E.T.El)} {ρ:List Value} (hm:Mem E.T W M0 X bl ρ w) {t:Nat} {p y:aL E.T.El} {ab5:Value} (aH:aw E.T (bm X bl ρ w) w ρ bl p ab5) (h:(Bm E bl t p).out y) :
 ∃ ej us v,ab5= .pointer (some ej)/\aw E.T (bm X bl ρ w) w ρ bl y v/\e0 w ej us/\Dn E.P t ej us v/\Hn X bl ρ w ej.block (QN p):=by
 unfold Bm at h
 split at h
 · rename_i i o
   split at h
   · rename_i ty cs gF I aa
     rw [cY] at I
     have h:=D.nl h
     simp only [aw] at aH
     obtain ⟨g,ay,rfl⟩:=aH
     obtain ⟨g',vs,ak,al,aT⟩:=hm.ok i _ _ I ay
     simp only [Value.pointer.injEq,Option.some.injEq,Addr.mk.injEq,and_true] at ak
     subst ak
     have hc:e0 w ⟨g,0,none⟩ vs:=fun j u az=>by
      have ah:(a7.dV g ty vs).ok w:=al
      simpa using u' ah az
     obtain ⟨v,us,bj,bk,cg⟩:=Ba aa h aT hc
     refine ⟨⟨g,o,none⟩,us,v,rfl,bj,by simpa using bk,fun op ac x w' av ad mZ=>cg op ac x w' av (by simpa using ad) (by simpa using mZ),_,_,I,ay,by simp [bA,ah]⟩
   · exact h.elim
 · rename_i t' d o
   split at h
   · rename_i gF aa
     have h:=D.nl h
     simp only [aw] at aH
     obtain ⟨a,q,cs,rfl,au,bb,c0⟩:=aH
     obtain ⟨v,us,bj,bk,cg⟩:=Ba aa h (dB.cells bb) c0
     exact ⟨_,us,v,rfl,bj,bk,cg,au⟩
   · exact h.elim
 · rename_i i g k t' j d o
   split at h
   · rename_i t2 bE bk l gF I aa
     rw [cY] at I
     simp only [aw] at aH
     obtain ⟨_,u,hu,hle,af⟩:=aH
     rw [I] at af
     obtain ⟨A,c,xs,ak,al,aT⟩:=hm.ok i _ _ I hu
     subst ak
     split at h
     · rename_i ay ai
       have h:=D.nl h
       obtain ⟨⟨cR,fG,bF,bp,bI,b2,gj⟩,avX,RP⟩:=af (Nat.eq_of_beq_eq_true ay)
       obtain ⟨l',cd,c7⟩:=RP (Nat.eq_of_beq_eq_true ai)
       simp only [p6,Option.some.injEq,Sigma.mk.injEq] at cd
       obtain ⟨fR,cd⟩:=cd
       subst fR
       have cd:=eq_of_heq cd
       subst cd
       simp only [Value.slice.injEq] at bp
       obtain ⟨rfl,rfl,rfl⟩:=bp
       obtain ⟨dY,rfl,sG,hc,jX⟩:=rH (by have:=(j0 c7).2.1;omega) al
       obtain ⟨cs,di,eg⟩:=acN hc aT c7
       obtain ⟨v,us,bj,zf,cg⟩:=Ba aa h (dB.cells di) eg
       refine ⟨_,us,v,gj,bj,?_,?_,_,_,I,hu,by simp [bA,jX,sG,dm]⟩
       · simpa [ix,dm] using zf
       · simpa [ix,dm,Dn] using cg
     · rename_i ay ai
       obtain ⟨d',c7,h⟩:=h
       have h:=D.nl h
       obtain ⟨⟨cR,fG,bF,bp,bI,b2,gj⟩,_,_⟩:=af (Nat.eq_of_beq_eq_true ay)
       simp only [Value.slice.injEq] at bp
       obtain ⟨rfl,rfl,rfl⟩:=bp
       obtain ⟨dY,rfl,sG,hc,jX⟩:=rH (by have:=(j0 c7).2.1;omega) al
       obtain ⟨cs,di,eg⟩:=acN hc aT c7
       obtain ⟨v,us,bj,zf,cg⟩:=Ba aa h (dB.cells di) eg
       refine ⟨_,us,v,gj,bj,?_,?_,_,_,I,hu,by simp [bA,jX,sG,dm]⟩
       · simpa [ix,dm] using zf
       · simpa [ix,dm,Dn] using cg
     · exact h.elim
   · exact h.elim
 · rename_i i g o
   split at h
   · rename_i t2 sz bE cs gF I aa
     rw [cY] at I
     split at h
     · rename_i ay
       have h:=D.nl h
       simp only [aw] at aH
       obtain ⟨_,u,hu,hle,af⟩:=aH
       rw [I] at af
       obtain ⟨A,n,c,xs,ak,al,aT⟩:=hm.ok i _ _ I hu
       subst ak
       obtain ⟨cR,fG,bF,bp,bI,gj⟩:=af (Nat.eq_of_beq_eq_true ay)
       simp only [Value.slice.injEq] at bp
       obtain ⟨rfl,rfl,rfl⟩:=bp
       obtain ⟨dY,rfl,sG,hc,jX⟩:=rH bI al
       obtain ⟨v,us,bj,zf,cg⟩:=Ba aa h aT hc
       refine ⟨_,us,v,gj,bj,?_,?_,_,_,I,hu,by simp [bA,jX,sG,dm]⟩
       · simpa [dm] using zf
       · simpa [dm,Dn] using cg
     · exact h.elim
   · exact h.elim
 · rename_i i g sz q
   split at h
   · rename_i t2 bE bk l gF I aa
     rw [cY] at I
     split at h
     · rename_i ah
       simp only [Bool.and_eq_true] at ah
       have ay:=Nat.eq_of_beq_eq_true ah.1
       have aj:=Nat.eq_of_beq_eq_true ah.2
       obtain ⟨d,c7,h⟩:=h
       have h:=D.nl h
       simp only [aw] at aH
       obtain ⟨a,o,abY,rfl,aI,⟨gI,u,hu,hle,af⟩,hc⟩:=aH
       have BI:=hle
       rw [I] at af BI
       obtain ⟨A,n,c,bp,bI,b2,gj⟩:=af ay
       have aB:a4 E.T (bm X bl ρ w) w ρ bl [.e i g bk t2 q d 0] [abY]:=by
        simp only [a4,aw]
        refine ⟨abY,[],rfl,⟨gI,u,hu,hle,fun _=>⟨⟨A,n,c,bp,bI,b2,?_⟩,by rw [I];exact Nat.le_refl _,fun _=>⟨l,by rw [I];rfl,c7⟩⟩⟩,rfl⟩
        rw [I,gj,aj];rfl
       obtain ⟨v,us,bj,zf,cg⟩:=Ba aa h aB hc
       exact ⟨_,us,v,rfl,bj,by simpa using zf,by simpa [Dn] using cg,aI⟩
     · exact h.elim
   · exact h.elim
 · exact h.elim
end
end bB
namespace bB
open Go Go.RowKit ax J
def cellsOf {El:Nat->Type}:aL El->List (aL El)
 | .a l=>l
 | .p (.agg ⟨vs⟩)=>vs.map .p
 | y=>[y]
def fo {α:Type}:List α->Nat->List α->List α
 | l,0,cs=>cs++l.drop cs.length
 | [],_+ 1,_=>[]
 | u::l,n+ 1,cs=>u::fo l n cs
theorem tr {α:Type}:∀ (l:List α) (n:Nat) (cs:List α),n+cs.length<=l.length->fo l n cs=l.take n++cs++l.drop (n+cs.length)
 | l,0,cs,_=>by simp [fo]
 | [],n+ 1,cs,h=>by simp at h
 | u::l,n+ 1,cs,h=>by
   have:=tr l n cs (by simp at h;omega)
   simp only [fo,this,List.take_succ_cons,List.cons_append]
   have e:n+ 1 +cs.length=(n+cs.length)+ 1 :=by omega
   rw [e,List.drop_succ_cons]
theorem QL {α:Type} {l:List α} {n:Nat} {cs:List α} (h:n+cs.length<=l.length):(fo l n cs).length=l.length:=by
 rw [tr l n cs h];simp;omega
theorem YE (off:Nat):∀ (cs:List Value) (k:Nat) (l:Array Value),off+k+cs.length<=l.size->((cs.zipIdx k).foldl (fun (a:Array Value) (x:Value × Nat)=>a.setIfInBounds (off+x.2) x.1) l).toList=fo l.toList (off+k) cs
 | [],k,l,h=>by
   rw [tr _ _ _ (by simpa using h)]
   simp
 | c::r,k,l,h=>by
   simp only [List.zipIdx_cons,List.foldl_cons]
   have h':off+(k+ 1)+r.length<=(l.setIfInBounds (off+k) c).size:=by simp at h ⊢;omega
   rw [YE off r (k+ 1) _ h',tr _ _ _ (by simpa using h'),tr _ _ _ (by simpa using h)]
   have ai:off+k <l.toList.length:=by simp at h ⊢;omega
   simp only [Array.toList_setIfInBounds,List.length_cons]
   apply List.ext_getElem?
   intro i
   simp only [List.getElem?_append,List.length_take,List.length_set,List.getElem?_take,List.getElem?_set,List.getElem?_drop,List.length_append,List.length_cons]
   have ak:min (off+(k+ 1)) l.toList.length=off+k+ 1 :=by simp at h ai ⊢;omega
   have al:min (off+k) l.toList.length=off+k:=by omega
   rw [ak,al]
   by_cases c1:i <off+k
   · simp [c1,show i <off+k+ 1 by omega,show i <off+k+ 1 +r.length by omega,show i <off+k+(r.length+ 1) by omega,show i <off+(k+ 1) by omega,show ¬ off+k=i by omega]
   · by_cases c2:i=off+k
     · subst c2
       simp only [show off+k <off+k+ 1 by omega,show off+k <off+k+ 1 +r.length by omega,show off+k <off+k+(r.length+ 1) by omega,show off+k <off+(k+ 1) by omega,if_true,ai,Nat.lt_irrefl,if_false,Nat.sub_self,List.getElem?_cons_zero]
     · by_cases c3:i <off+k+ 1 +r.length
       · simp only [show ¬ i <off+k+ 1 by omega,c3,show i <off+k+(r.length+ 1) by omega,c1,if_false,if_true]
         have:i - (off+k)=(i - (off+k+ 1))+ 1 :=by omega
         rw [this,List.getElem?_cons_succ]
       · simp only [show ¬ i <off+k+ 1 by omega,c3,show ¬ i <off+k+(r.length+ 1) by omega,if_false,show ¬ (off+k=off+(k+ 1)+r.length+(i - (off+k+ 1 +r.length))) by omega]
         congr 1
         omega
def sy {El:Nat->Type} (pl:Nat->Option (Nat × Nat)):List (aL El)->List (Nat × aL El)->Option (List (aL El))
 | cs,[]=>some cs
 | cs,(i,y)::r=>match pl i with
   | some (off,size)=>match Nat.beq (cellsOf y).length size && Nat.ble (off+(cellsOf y).length) cs.length with
     | true=>sy pl (fo cs off (cellsOf y)) r
     | false=>none
   | none=>none
section
variable {T:b6} {F:Nat->Prop} {w:World} {ρ:List Value} {bl:List (aJ T.El)}
theorem p5:∀ (vs:List Value),a4 T F w ρ bl (vs.map .p) vs
 | []=>by simp [a4]
 | v::r=>by simp only [List.map_cons,a4];exact ⟨v,r,rfl,rfl,p5 r⟩
theorem j8 {z:aL T.El} {u:Value} (aj:aw T F w ρ bl z u):a4 T F w ρ bl [z] [u]:=by
 simp only [a4]
 exact ⟨u,[],rfl,aj,rfl⟩
theorem HO {v:Value} (h:mg v):v.cells.toList= [v]:=by cases v <;> simp [mg] at h;rfl
theorem HN {v:Value} (h:s5 v):v.cells.toList= [v]:=by cases v <;> simp [s5] at h;rfl
theorem mR {y:aL T.El} {v:Value} (h:aw T F w ρ bl y v):a4 T F w ρ bl (cellsOf y) v.cells.toList:=by
 cases y with
 | a l=>simp only [aw] at h;obtain ⟨vs,rfl,h⟩:=h;exact h
 | p u=>
   simp only [aw] at h
   subst h
   cases v with
   | agg cs=>obtain ⟨vs⟩:=cs;exact p5 vs
   | _=>exact j8 (by simp [aw])
 | b i o=>have h':=h;simp only [aw] at h';obtain ⟨g,_,rfl⟩:=h';exact j8 h
 | x t d o=>have h':=h;simp only [aw] at h';obtain ⟨a,q,cs,rfl,_⟩:=h';exact j8 h
 | s t l=>have h':=h;simp only [aw] at h';obtain ⟨A,c,e⟩:=kK _ h';subst e;exact j8 h
 | q t l=>have h':=h;simp only [aw] at h';obtain ⟨_,A,rfl⟩:=h';exact j8 h
 | r i g=>have h':=h;simp only [aw] at h';rw [HO h'.1];exact j8 h
 | v i g lo hi=>have h':=h;simp only [aw] at h';rw [HO h'.1];exact j8 h
 | e i g k t j d o=>have h':=h;simp only [aw] at h';rw [HN h'.1];exact j8 h
 | w i g o=>have h':=h;simp only [aw] at h';rw [HN h'.1];exact j8 h
 | m i=>have h':=h;simp only [aw] at h';obtain ⟨g,_,rfl⟩:=h';exact j8 h
 | n _ _ _=>have h':=h;simp only [aw] at h';obtain ⟨g,rfl,_⟩:=h';exact j8 h
 | f fn cs=>have h':=h;simp only [aw] at h';obtain ⟨g,rfl,_⟩:=h';exact j8 h
 | h fn us=>have h':=h;simp only [aw] at h';obtain ⟨g,rfl,_⟩:=h';exact j8 h
 | u l=>have h':=h;simp only [aw] at h';obtain ⟨g,rfl,_⟩:=h';exact j8 h
 | i t z=>have h':=h;simp only [aw] at h';obtain ⟨g,rfl,_⟩:=h';exact j8 h
 | pp i g sz ek=>have h':=h;simp only [aw] at h';obtain ⟨_,_,rfl,_⟩:=h';exact j8 h
 | wJ i g sz q=>have h':=h;simp only [aw] at h';obtain ⟨_,_,_,rfl,_⟩:=h';exact j8 h
theorem a4.lay {l cs:List (aL T.El)} {vs us:List Value} {n:Nat} (h:a4 T F w ρ bl l vs) (h':a4 T F w ρ bl cs us) (hle:n+cs.length<=l.length):a4 T F w ρ bl (fo l n cs) (fo vs n us):=by
 have ak:=h.len
 have al:=h'.len
 rw [tr _ _ _ hle,tr _ _ _ (by omega),al]
 exact a4.bO (a4.bO (a4.take n h) h') (a4.drop _ h)
def o9 (T:b6) (F:Nat->Prop) (w:World) (ρ:List Value) (bl:List (aJ T.El)):List (Nat × aL T.El)->List (Nat × Value)->Prop
 | [],vs=>vs= []
 | (i,y)::r,vs=>∃ v ws,vs=(i,v)::ws/\aw T F w ρ bl y v/\o9 T F w ρ bl r ws
theorem NE {pl:Nat->Option (Nat × Nat)}:∀ {ps:List (Nat × aL T.El)} {vs:List (Nat × Value)} {cs out:List (aL T.El)} {us:List Value},a4 T F w ρ bl cs us->o9 T F w ρ bl ps vs->sy pl cs ps=some out-> ∃ os,Instr.fill pl ⟨us⟩ vs=some ⟨os⟩/\a4 T F w ρ bl out os
 | [],vs,cs,out,us,h,aH,he=>by
   simp only [o9] at aH
   subst aH
   simp only [sy,Option.some.injEq] at he
   subst he
   exact ⟨us,rfl,h⟩
 | (i,y)::r,vs,cs,out,us,h,aH,he=>by
   simp only [o9] at aH
   obtain ⟨v,ws,rfl,hy,aB⟩:=aH
   simp only [sy] at he
   split at he
   · rename_i off size IY
     split at he
     · rename_i ah
       simp only [Bool.and_eq_true] at ah
       have ak:=Nat.eq_of_beq_eq_true ah.1
       have al:=Nat.le_of_ble_eq_true ah.2
       have hc:=mR hy
       have l1:=hc.len
       have cp:=h.len
       have jp:v.cells.size=(cellsOf y).length:=by rw [<-l1];simp
       obtain ⟨os,I,aa⟩:=NE (h.lay hc al) aB he
       refine ⟨os,?_,aa⟩
       simp only [Instr.fill,IY]
       rw [if_neg (by simp only [Bool.or_eq_true,decide_eq_true_eq,bne_iff_ne,not_or];simp only [List.size_toArray];omega)]
       have aj:v.cells.zipIdx.toList=v.cells.toList.zipIdx:=by simp
       rw [<-Array.foldl_toList,aj]
       have:=YE off v.cells.toList 0 ⟨us⟩ (by simp;omega)
       simp only [Nat.add_zero] at this
       rw [<-I]
       congr 1
       rw [<-Array.toList_inj]
       exact this
     · cases he
   · cases he
end
def FE (P:Program):List Go.Field->Option (List (Nat × Nat))
 | []=>some []
 | f::r=>match P.info? f.type,FE P r with
   | some i,some l=>some ((f.offset,i.size)::l)
   | _,_=>none
theorem abQ {P:Program} {w:World}:∀ {cx:List Go.Field} {l:List (Nat × Nat)},FE P cx=some l->(cx.mapM fun (f:Go.Field)=>(do pure (f.offset,<-Go.sizeOf f.type):Sem (Nat × Nat))).run P w= .ok l w
 | [],l,h=>by simp only [FE,Option.some.injEq] at h;subst h;rfl
 | f::r,l,h=>by
   simp only [FE] at h
   split at h
   · rename_i i l' I aa
     simp only [Option.some.injEq] at h
     subst h
     rw [List.mapM_cons]
     simp only [Sem.run_bind,run_sizeOf I,abQ aa,Result.andThen_ok,Sem.run_pure]
   · cases h
def AD (P:Program) (t:TypeId):Option (List Value):=match P.info? t with
 | some i=>match i.zero with
   | some z=>some z.cells.toList
   | none=>none
 | none=>none
theorem G7 {P:Program} {t:TypeId} {l:List Value} (h:AD P t=some l):∃ z,(∀ w,(zeroValue t).run P w= .ok z w)/\z.cells=⟨l⟩:=by
 unfold AD at h
 split at h
 · rename_i i I
   split at h
   · rename_i z aa
     simp only [Option.some.injEq] at h
     subst h
     refine ⟨z,fun w=>?_,by simp⟩
     simp only [zeroValue,typeInfo,Sem.run_bind]
     simp [go_sem,I,aa]
   · cases h
 · cases h
def Nh (E:Env) (t:Nat) (ps:List (Nat × aL E.T.El)):D (aL E.T.El):=match E.P.underlying t,AD E.P t with
 | some (.struct cx),some z=>match FE E.P cx.toList with
   | some pl=>match sy (fun i=>nth pl i) (z.map .p) ps with
     | some cs=>.ok (.a cs)
     | none=>.no
   | none=>.no
 | _,_=>.no
section
variable {E:Env} {F:Nat->Prop} {w:World} {ρ:List Value} {bl:List (aJ E.T.El)}
theorem aoq {t:Nat} {ps:List (Nat × aL E.T.El)} {vs:List (Nat × Value)} {y:aL E.T.El} (aH:o9 E.T F w ρ bl ps vs) (h:(Nh E t ps).out y) :
 ∃ v,aw E.T F w ρ bl y v/\ ∀ (o:Oper) (a:Act) (xs:List (Nat × Operand)) (w':World),o.op= .build t xs.toArray->xs.map (fun p=>(p.1,a.eval p.2))=vs->bh E.P o a w' v w':=by
 unfold Nh at h
 split at h
 · rename_i cx z I aa
   split at h
   · rename_i pl au
     split at h
     · rename_i cs bb
       have h:aL.a cs=y:=h
       subst h
       obtain ⟨eL,aj,Qa⟩:=G7 aa
       obtain ⟨os,c0,g8⟩:=NE (p5 z) aH bb
       refine ⟨.agg ⟨os⟩,by simp only [aw];exact ⟨os,rfl,g8⟩,fun o a xs w' av ad=>?_⟩
       have aqm:(fun i=>nth pl i)=(fun i=>(⟨pl⟩:Array (Nat × Nat))[i]?):=by funext i;rw [cY];simp
       have IY:(cx.mapM fun (f:Go.Field)=>(do pure (f.offset,<-Go.sizeOf f.type):Sem (Nat × Nat))).run E.P w'= .ok ⟨pl⟩ w':=by
        have h0:=abQ (w:=w') au
        have e:cx.mapM (fun (f:Go.Field)=>(do pure (f.offset,<-Go.sizeOf f.type):Sem (Nat × Nat)))=List.toArray <$> cx.toList.mapM (fun (f:Go.Field)=>(do pure (f.offset,<-Go.sizeOf f.type):Sem (Nat × Nat))):=by
         rw [<-List.mapM_toArray]
        rw [e,map_eq_pure_bind,Sem.run_bind,h0]
        rfl
       rw [aqm] at c0
       simp only [bh,execOp,av,Instr.build,Sem.run_bind,aj,Result.andThen_ok,run_underlying I,IY,List.map_toArray,ad,Qa,c0]
       rfl
     · exact h.elim
   · exact h.elim
 · exact h.elim
end
end bB
namespace ax
open Go Go.RowKit J
section
variable {P:Program} {ops:Array Oper} {Q:Exit->Act->World->Prop} {a:Act} {w:World} {rest:List Oper} {o:Oper} {n:cN} {d:Nat} {l:List (Nat × Value)}
 {W:World} {M0 X:List Nat} {E:List a7} {D:List bw}
def a7.nil:a7:=⟨[],fun _=>True,fun _ _ _ _=>trivial⟩
theorem bq.H9 {x:a7} {w':World} (hm:bq W M0 X w E D) (i:Nat) (hi:E[i]? =some x) (af:br [] w w'):x.ok w':=
 x.law w w' (fun k ai=>af.block k (hm.lt k (List.mem_flatMap.2 ⟨x,List.mem_of_getElem? hi,ai⟩)).1 (by simp)) (hm.e i hi)
theorem aC5 {t:TypeId} {x:Operand} {lo hi:Option Operand} {p r:List UInt8} {i j:Int} (aM:P.underlying t=some .string) (av:o.op= .slice t x lo hi none) (ad:a.eval x=cm p)
 (m6:(lo=none/\i= 0)\/ ∃ z,lo=some z/\a.eval z= .int .i64 i) (jG:(hi=none/\j=p.length)\/ ∃ z,hi=some z/\a.eval z= .int .i64 j) (aB:cut p i j=some r):bh P o a w (cm r) w:=by
 obtain ⟨⟨I,aa,au⟩,rfl⟩:=MV aB
 have dI:(⟨p.toArray⟩:ByteArray).size=p.length:=by simp [ByteArray.size]
 have bZ:∀ code,(Instr.sliceBound (.int .i64 j) (⟨p.toArray⟩:ByteArray).size code).run P w= .ok j.toNat w:=fun code=>wM rfl (by rw [dI];omega)
 rw [dI] at bZ
 have ed:∀ code,(Instr.sliceBound (.int .i64 i) j.toNat code).run P w= .ok i.toNat w:=fun code=>wM rfl (by omega)
 have fX:∀ code,(Instr.sliceBound (.int .i64 i) (⟨p.toArray⟩:ByteArray).size code).run P w= .ok i.toNat w:=fun code=>wM rfl (by rw [dI];omega)
 rw [dI] at fX
 have I2:(⟨p.toArray⟩:ByteArray).extract i.toNat j.toNat=⟨((p.take j.toNat).drop i.toNat).toArray⟩:=by
  apply ByteArray.ext
  simp [ByteArray.data_extract,List.drop_take]
 have key:∀ Fi cP:Option Value,((Fi=none/\i= 0)\/Fi=some (.int .i64 i))->((cP=none/\j=p.length)\/cP=some (.int .i64 j)) ->
  (Instr.slice t (.string ⟨p.toArray⟩) Fi cP none).run P w= .ok (cm ((p.take j.toNat).drop i.toNat)) w:=by
  intro Fi cP ap bz
  have ah:∃ m,(Instr.sliceBounds false (⟨p.toArray⟩:ByteArray).size (⟨p.toArray⟩:ByteArray).size Fi cP none).run P w= .ok (i.toNat,j.toNat,m) w:=by
   rcases ap with ⟨rfl,rfl⟩ | rfl <;> rcases bz with ⟨rfl,az⟩ | rfl
   · exact ⟨_,by simp [Instr.sliceBounds,az,dI];rfl⟩
   · exact ⟨_,by simp [Instr.sliceBounds,dI,bZ];rfl⟩
   · exact ⟨_,by simp [Instr.sliceBounds,fX,az,dI];rfl⟩
   · exact ⟨_,by simp [Instr.sliceBounds,dI,bZ,ed];rfl⟩
  obtain ⟨m,ah⟩:=ah
  simp only [Instr.slice,Sem.run_bind,run_underlying aM,Result.andThen_ok,Option.isSome_none,Bool.false_eq_true,if_false,ah,Sem.run_pure,I2,cm]
 have m8:=key (lo.map a.eval) (hi.map a.eval) (m6.imp (fun h=>⟨by rw [h.1];rfl,h.2⟩) (fun ⟨z,bp,bI⟩=>by rw [bp,Option.map_some,bI])) (jG.imp (fun h=>⟨by rw [h.1];rfl,h.2⟩) (fun ⟨z,bp,bI⟩=>by rw [bp,Option.map_some,bI]))
 simp only [bh,execOp,av,ad,cm,Instr.sliceAt,Sem.run_bind,run_underlying aM,Result.andThen_ok,Option.map_none,m8]
 rfl
theorem aC' {t:TypeId} {x:Operand} {v:Value} (hc:P.concrete t=true) (av:o.op= .makeInterface t x) (ad:a.eval x=v):bh P o a w (.iface t v) w:=by
 simp only [bh,execOp,av,ad]
 simp [go_sem,run_makeInterface _ _ _ hc]
end
end ax
namespace bB
open Go Go.RowKit ax J
abbrev jN (P:Program) (o:Oper) (a:Act) (v:Value):Prop:=∀ w,bh P o a w v w
section
variable {E:Env} {W w:World} {M0:List Nat} {X:Nat->Prop} {bl:List (aJ E.T.El)} {ρ:List Value}
def RI (E:Env) (x y:Operand) (b:Bool):aL E.T.El->aL E.T.El->D (aL E.T.El)
 | .p u,.p v=>match J6 x y b u v with
   | some r=>.ok (.p r)
   | none=>.n0 b (.ok (.p u)) (.ok (.p v))
 | u,v=>.n0 b (.ok u) (.ok v)
theorem avu {F:Nat->Prop} {a:Act} {x y:Operand} {b:Bool} {u v z:aL E.T.El} (h:(RI E x y b u v).out z) (ad:b=true->aw E.T F w ρ bl u (a.eval x)) (hy:b=false->aw E.T F w ρ bl v (a.eval y)) :
 ∃ r,(if b then a.eval x else a.eval y)=r/\aw E.T F w ρ bl z r:=by
 have key:(D.n0 b (.ok u) (.ok v)).out z-> ∃ r,(if b then a.eval x else a.eval y)=r/\aw E.T F w ρ bl z r:=fun h=>by
  rcases h with ⟨ah,h⟩ | ⟨ah,h⟩
  · have h:u=z:=h
    subst h;subst ah
    exact ⟨_,rfl,by simpa using ad rfl⟩
  · have h:v=z:=h
    subst h;subst ah
    exact ⟨_,rfl,by simpa using hy rfl⟩
 unfold RI at h
 split at h
 · rename_i u v
   split at h
   · rename_i r aB
     have h:aL.p r=z:=h
     subst h
     refine ⟨r,abM (a:=a) aB (fun ah=>?_) (fun ah=>?_),by simp [aw]⟩
     · simpa [aw] using ad ah
     · simpa [aw] using hy ah
   · exact key h
 · exact key h
theorem aDm {P:Program} {o:Oper} {a:Act} {c x y:Operand} {b:Bool} {r:Value} (av:o.op= .pick c x y) (hc:a.eval c= .bool b) (h:(if b then a.eval x else a.eval y)=r):bh P o a w r w:=by
 cases b with
 | true=>exact L4 av hc (by simpa using h)
 | false=>exact L3 av hc (by simpa using h)
def ar9 (P:Program) (t:TypeId):Bool:=match P.underlying t with
 | some (.struct _)=>true
 | _=>false
def j1 {El:Nat->Type}:aL El->Bool
 | .a _=>true
 | .p (.agg _)=>true
 | _=>false
def HY (E:Env) (t:Nat) (b:Bool) (u v:aL E.T.El):D (aL E.T.El):=match j1 u && j1 v with
 | true=>match (E.T.e t).eq,(E.T.e t).gQ (cellsOf u),(E.T.e t).gQ (cellsOf v) with
   | some f,some d,some e=>.ok (.p (.bool (cond b (f d e) (!f d e))))
   | _,_,_=>.no
 | false=>.no
def aac:Value->Bool
 | .pointer none=>true
 | _=>false
def Ja {El:Nat->Type}:aL El->Bool
 | .b _ _=>true
 | .x _ _ _=>true
 | .e _ _ _ _ _ _ _=>true
 | .w _ _ _=>true
 | _=>false
def RM (P:Program) (t:TypeId):Bool:=match P.underlying t with
 | some (.pointer _)=>true
 | _=>false
def zI (op:BinOp) (b:Bool):Option Bool:=match op with
 | .eql=>some b
 | .neq=>some (!b)
 | _=>none
def Xa (op:BinOp) (m n:Int):Option Value:=match op with
 | .quo=>some (.int .i64 (aE (m.tdiv n)))
 | .rem=>some (.int .i64 (m.tmod n))
 | _=>none
def Ng (E:Env) (t:Nat) (op:BinOp) (gf:Bool) (u v:aL E.T.El):D (aL E.T.El):=match ar9 E.P t,op with
 | true,.eql=>HY E t true u v
 | true,.neq=>HY E t false u v
 | _,_=>match u,v with
   | .p x,.p y=>match bin (jJ (E.P.underlying t)) gf op x y with
     | some r=>.ok (.p r)
     | none=>match x,y with
       | .int .i64 m,.int .i64 n=>match Xa op m n with
         | some r=>.op (tL (!decide (n= 0))) fun _=>.ok (.p r)
         | none=>.no
       | .int .u64 m,.int _ (.ofNat n)=>match op,Nat.ble n 64 with
         | .shr,true=>.ok (.p (.int .u64 (tS m n)))
         | _,_=>.no
       | _,_=>.no
   | u,.p y=>match RM E.P t && Ja u && aac y,zI op false with
     | true,some b=>.ok (.p (.bool b))
     | _,_=>.no
   | _,_=>.no
theorem aDn {P:Program} {o:Oper} {a:Act} {t t':TypeId} {x y:Operand} {p:Addr} {op:BinOp} {b:Bool} (aM:RM P t=true) (ah:zI op false=some b) (av:o.op= .binOp op t x y t') (ad:a.eval x= .pointer (some p)) (hy:a.eval y= .pointer none):bh P o a w (.bool b) w:=by
 have hu:∃ e,P.underlying t=some (.pointer e):=by
  unfold RM at aM
  split at aM
  · rename_i e h;exact ⟨e,h⟩
  · cases aM
 obtain ⟨e,hu⟩:=hu
 have h:∀ d:Nat,(Op.equalIn (d+ 1) t (.pointer (some p)) (.pointer none)).run P w= .ok false w:=fun d=>by
  simp [Op.equalIn,run_underlying hu]
 cases op <;> simp only [zI,Option.some.injEq,reduceCtorEq] at ah <;> subst ah
 · have aa:(binOp .eql t (.pointer (some p)) (.pointer none)).run P w= .ok (.bool false) w:=by
    simp only [binOp]
    simp [Op.equal,Op.maxDepth,h 9999]
   simp only [bh,execOp,av,ad,hy]
   simp [go_sem,aa]
 · have aa:(binOp .neq t (.pointer (some p)) (.pointer none)).run P w= .ok (.bool true) w:=by
    simp only [binOp]
    simp [Op.equal,Op.maxDepth,h 9999]
   simp only [bh,execOp,av,ad,hy]
   simp [go_sem,aa]
theorem aad {F:Nat->Prop} {y:aL E.T.El} {v:Value} (h:Ja y=true) (af:aw E.T F w ρ bl y v):∃ p,v= .pointer (some p):=by
 cases y <;> simp only [Ja,reduceCtorEq] at h
 · simp only [aw] at af;obtain ⟨g,_,rfl⟩:=af;exact ⟨_,rfl⟩
 · simp only [aw] at af;obtain ⟨_,_,_,rfl,_⟩:=af;exact ⟨_,rfl⟩
 · simp only [aw] at af;cases v <;> simp [s5] at af;rename_i p;cases p <;> simp at af;exact ⟨_,rfl⟩
 · simp only [aw] at af;cases v <;> simp [s5] at af;rename_i p;cases p <;> simp at af;exact ⟨_,rfl⟩
theorem E2 {F:Nat->Prop} {y:aL E.T.El} {v:Value} (h:j1 y=true) (af:aw E.T F w ρ bl y v):v= .agg ⟨v.cells.toList⟩:=by
 cases y <;> simp only [j1,reduceCtorEq] at h
 · rename_i u
   simp only [aw] at af
   subst af
   cases v <;> simp only [j1,reduceCtorEq] at h
   simp [Value.cells]
 · simp only [aw] at af
   obtain ⟨vs,rfl,_⟩:=af
   simp [Value.cells]
theorem aop (a5:du E) {F:Nat->Prop} {o:Oper} {a:Act} {t:Nat} {op:BinOp} {gf:Bool} {x y:Operand} {t':TypeId} {u v z:aL E.T.El} (h:(Ng E t op gf u v).out z) (av:o.op= .binOp op t x y t') (aj:gf=true-> ∀ k n,a.eval y= .int k n->n≠ 0)
 (ad:aw E.T F w ρ bl u (a.eval x)) (hy:aw E.T F w ρ bl v (a.eval y)):∃ r,jN E.P o a r/\aw E.T F w ρ bl z r:=by
 have gv:∀ {b:Bool},op=cond b .eql .neq->(HY E t b u v).out z-> ∃ r,jN E.P o a r/\aw E.T F w ρ bl z r:=fun {b} ah h=>by
  unfold HY at h
  split at h
  · rename_i ay
    simp only [Bool.and_eq_true] at ay
    split at h
    · rename_i f d e I aa au
      have h:aL.p (.bool (cond b (f d e) (!f d e)))=z:=h
      subst h
      have ap5:=a5.tb.gQ _ _ _ aa _ _ _ _ _ (mR ad)
      have ap6:=a5.tb.gQ _ _ _ au _ _ _ _ _ (mR hy)
      exact ⟨.bool (cond b (f d e) (!f d e)),fun w'=>a5.eq t f I _ _ _ _ d e ap5 ap6 o a x y t' b (by rw [av,ah]) (E2 ay.1 ad) (E2 ay.2 hy) w',by simp only [aw]⟩
    · exact h.elim
  · exact h.elim
 unfold Ng at h
 split at h
 · exact gv (b:=true) rfl h
 · exact gv (b:=false) rfl h
 · split at h
   · rename_i p q
     simp only [aw] at ad hy
     split at h
     · rename_i r aB
       have h:aL.p r=z:=h
       subst h
       exact ⟨r,fun w'=>Ws (fun k ai=>s7 ai) aj aB av ad hy,by simp only [aw]⟩
     · split at h
       · rename_i m n
         split at h
         · rename_i r aB
           obtain ⟨b,I,aa⟩:=h
           have aa:aL.p r=z:=aa
           subst aa
           have aF:=Rn I
           refine ⟨r,fun w'=>?_,by simp only [aw]⟩
           unfold Xa at aB
           split at aB
           · simp only [Option.some.injEq] at aB;subst aB;exact ahT av ad hy aF
           · simp only [Option.some.injEq] at aB;subst aB;exact ahU av ad hy aF
           · cases aB
         · exact h.elim
       · rename_i m k n _
         split at h
         · rename_i ah _
           have h:aL.p (.int .u64 (tS m n))=z:=h
           subst h
           exact ⟨_,fun w'=>aDp (by assumption) av ad hy,by simp only [aw]⟩
         · exact h.elim
       · exact h.elim
   · rename_i q _
     split at h
     · rename_i b I aa
       have h:aL.p (.bool b)=z:=h
       subst h
       simp only [Bool.and_eq_true] at I
       simp only [aw] at hy
       obtain ⟨p,aH⟩:=aad I.1.2 ad
       have aS:q= .pointer none:=by
        cases q <;> simp only [aac,reduceCtorEq,and_false] at I
        rename_i rA
        cases rA <;> simp at I ⊢
       exact ⟨_,fun w'=>aDn I.1.1 aa av aH (by rw [hy,aS]),by simp only [aw]⟩
     · exact h.elim
   · exact h.elim
end
end bB
namespace bB
open Go Go.RowKit ax J
def my (P:Program) (t:TypeId):Option (Nat × Nat):=match P.underlying t with
 | some (.slice e)=>match P.info? e with
   | some i=>some (e,i.size)
   | none=>none
 | _=>none
theorem p9 {P:Program} {t e n:Nat} (h:my P t=some (e,n)):P.underlying t=some (.slice e)/\ ∀ w,(Go.sizeOf e).run P w= .ok n w:=by
 unfold my at h
 split at h
 · rename_i e' I
   split at h
   · rename_i i aa
     simp only [Option.some.injEq,Prod.mk.injEq] at h
     obtain ⟨rfl,rfl⟩:=h
     exact ⟨I,run_sizeOf aa⟩
   · cases h
 · cases h
def Nm (E:Env) (bl:List (aJ E.T.El)) (t:Nat):aL E.T.El->aL E.T.El->D (aL E.T.El)
 | .s t' l,.p (.int .i64 j)=>match my E.P t with
   | some (_,n)=>match Nat.beq n (E.T.ty t').size with
     | true=>.op (idx l j) fun d=>.ok (.x t' d 0)
     | false=>.no
   | none=>.no
 | .q t' l,.p (.int .i64 j)=>match my E.P t with
   | some (_,n)=>match Nat.beq n (E.T.ty t').size with
     | true=>.op (idx l j) fun d=>.ok (.x t' d 0)
     | false=>.no
   | none=>.no
 | .r i g,.p (.int .i64 j)=>match my E.P t,nth bl i with
   | some (_,n),some (.r t' bE k l)=>match Nat.beq g bE && Nat.beq n (E.T.ty t').size with
     | true=>.op (idx l j) fun d=>.ok (.e i g k t' j d 0)
     | false=>.no
   | some (_,n),some (.k _ sz bE cs)=>match Nat.beq g bE && Nat.beq n sz && decide (0 <=j) && Nat.ble ((j.toNat+ 1)*sz) cs.length && Nat.blt 0 sz with
     | true=>.ok (.w i g (j.toNat*sz))
     | false=>.no
   | _,_=>.no
 | .v i g lo hi,.p (.int .i64 j)=>match my E.P t,nth bl i with
   | some (_,n),some (.r t' bE k l)=>match Nat.beq g bE && Nat.beq n (E.T.ty t').size with
     | true=>.op (idx ((l.take hi.toNat).drop lo.toNat) j) fun d=>.ok (.e i g k t' (lo+j) d 0)
     | false=>.no
   | _,_=>.no
 | .pp i g sz ek,.p (.int .i64 j)=>match my E.P t with
   | some (_,n)=>match Nat.beq n 1 with
     | true=>.op (idx ek j) fun q=>.ok (.wJ i g sz q)
     | false=>.no
   | none=>.no
 | _,_=>.no
theorem arV {α:Type} {l:List α} {lo hi j:Int} {d:α} (aP:0 <=lo) (I:hi<=l.length) (h:idx ((l.take hi.toNat).drop lo.toNat) j=some d):idx l (lo+j)=some d/\ 0 <=j/\lo+j <hi:=by
 obtain ⟨a,b,c⟩:=j0 h
 simp only [List.length_drop,List.length_take] at b
 rw [List.getElem?_drop,List.getElem?_take] at c
 split at c
 · refine ⟨?_,a,by omega⟩
   unfold idx
   rw [if_pos (by omega),show (lo+j).toNat=lo.toNat+j.toNat by omega]
   exact c
 · cases c
section
variable {E:Env} {W w:World} {M0:List Nat} {X:Nat->Prop} {bl:List (aJ E.T.El)} {ρ:List Value}
theorem Cw {t sz n c:Nat} {A:Option Addr} {xs:List Value} (h:rowIs w t sz (.slice A n c) n xs) (aF:0 <n):∃ g,A=some ⟨g,0,none⟩:=h.cap.2.2.2 (by have:=h.cap.1;omega)
theorem Ky {t sz n c:Nat} {A:Option Addr} {xs:List Value} (h:rowIs w t sz (.slice A n c) n xs):n<=c:=h.cap.1
theorem Yk {F:Nat->Prop} {t':Nat} {l:List (E.T.El t')} {o:Oper} {a:Act} {t e n:Nat} {x y:Operand} {j:Int} {d:E.T.El t'} {A:Option Addr} {c:Nat} (ao:my E.P t=some (e,n)) (aF:n=(E.T.ty t').size) (I:idx l j=some d) (av:o.op= .indexAddr t x y)
 (ad:a.eval x= .slice A l.length c) (gP:(b3 (E.T.ty t')).rd F w [.slice A l.length c] l) (hy:a.eval y= .int .i64 j):∃ r,jN E.P o a r/\aw E.T F w ρ bl (.x t' d 0) r:=by
 have Bv:=I
 obtain ⟨hu,aj⟩:=p9 ao
 obtain ⟨dH,az,cs,bp,bI⟩:=zS _ gP I
 refine ⟨_,fun w'=>nM hu aj av ad hy dH az,?_⟩
 simp only [aw]
 obtain ⟨cR,bF,ak,al,aT,bU,dn⟩:=(gP:(b3 _).rd _ w _ l)
 have b5:l≠ []:=by intro e;subst e;have:=(j0 Bv).2.1;simp at this
 have aI:=(dn b5).2.1
 simp only [List.cons.injEq,Value.slice.injEq,and_true,true_and] at ak
 obtain ⟨rfl,rfl⟩:=ak
 exact ⟨dm A,gg A+j.toNat*(E.T.ty t').size,cs,by rw [aF];simp,aI,bp,bI⟩
theorem aow {o:Oper} {a:Act} {t:Nat} {x y:Operand} {u v z:aL E.T.El} (hm:Mem E.T W M0 X bl ρ w) (h:(Nm E bl t u v).out z) (av:o.op= .indexAddr t x y)
 (ad:aw E.T (bm X bl ρ w) w ρ bl u (a.eval x)) (hy:aw E.T (bm X bl ρ w) w ρ bl v (a.eval y)):∃ r,jN E.P o a r/\aw E.T (bm X bl ρ w) w ρ bl z r:=by
 unfold Nm at h
 split at h
 · rename_i t' l j
   split at h
   · rename_i e n ao
     split at h
     · rename_i ah
       obtain ⟨d,I,aa⟩:=h
       have aa:aL.x t' d 0 =z:=aa
       subst aa
       simp only [aw] at ad hy
       obtain ⟨A,c,af⟩:=kK _ ad
       rw [af] at ad
       exact Yk ao (Nat.eq_of_beq_eq_true ah) I av af ad hy
     · exact h.elim
   · exact h.elim
 · rename_i t' l j
   split at h
   · rename_i e n ao
     split at h
     · rename_i ah
       obtain ⟨d,I,aa⟩:=h
       have aa:aL.x t' d 0 =z:=aa
       subst aa
       simp only [aw] at ad hy
       obtain ⟨A,c,af⟩:=kK _ ad.1
       have ad:=ad.1
       rw [af] at ad
       exact Yk ao (Nat.eq_of_beq_eq_true ah) I av af ad hy
     · exact h.elim
   · exact h.elim
 · rename_i i g j
   split at h
   · rename_i e n t' bE k l ao hi
     rw [cY] at hi
     split at h
     · rename_i ah
       simp only [Bool.and_eq_true] at ah
       obtain ⟨d,I,aa⟩:=h
       have aa:aL.e i g k t' j d 0 =z:=aa
       subst aa
       simp only [aw] at ad hy
       obtain ⟨_,aN,bp,bI,b2⟩:=ad
       rw [hi] at bI b2
       have jn:=b2 (Nat.eq_of_beq_eq_true ah.1)
       obtain ⟨A,c,xs,ak,al,aT⟩:=hm.ok i _ _ hi bp
       subst ak
       obtain ⟨IQ,yS,sQ⟩:=j0 I
       obtain ⟨dY,rfl⟩:=Cw al (by omega)
       obtain ⟨hu,aj⟩:=p9 ao
       have aF:=Nat.eq_of_beq_eq_true ah.2
       refine ⟨_,fun w'=>nM hu aj av jn hy rfl ⟨IQ,by omega⟩,?_⟩
       simp only [aw]
       refine ⟨trivial,_,bp,by rw [hi];exact bI,fun _=>⟨⟨_,_,_,rfl,IQ,by omega,by simp [dm,gg,hi,ix,aF]⟩,by rw [hi];exact Nat.le_refl _,fun _=>⟨l,by rw [hi];rfl,I⟩⟩⟩
     · exact h.elim
   · rename_i e n t' sz bE cs ao hi
     rw [cY] at hi
     split at h
     · rename_i ah
       simp only [Bool.and_eq_true,decide_eq_true_eq] at ah
       obtain ⟨⟨⟨⟨bZ,ed⟩,fX⟩,gr⟩,jR⟩:=ah
       have h:aL.w i g (j.toNat*sz)=z:=h
       subst h
       simp only [aw] at ad hy
       obtain ⟨_,aN,bp,bI,b2⟩:=ad
       rw [hi] at bI b2
       have jn:=b2 (Nat.eq_of_beq_eq_true bZ)
       obtain ⟨A,m,c,xs,ak,al,aT⟩:=hm.ok i _ _ hi bp
       subst ak
       have gr:=Nat.le_of_ble_eq_true gr
       have jR:=Nat.le_of_ble_eq_true jR
       have hlen:=aT.len
       have aD':=al.len
       have aD9:j.toNat <m:=by
        rcases Nat.lt_or_ge j.toNat m with q | q
        · exact q
        · have:=Nat.mul_le_mul_right sz q
          rw [Nat.add_mul] at gr
          omega
       obtain ⟨dY,rfl⟩:=Cw al (by omega)
       obtain ⟨hu,aj⟩:=p9 ao
       have aF:=Nat.eq_of_beq_eq_true ed
       refine ⟨_,fun w'=>nM hu aj av jn hy rfl ⟨fX,by omega⟩,?_⟩
       simp only [aw]
       exact ⟨trivial,_,bp,by rw [hi];exact bI,fun _=>⟨_,_,_,rfl,by omega,by simp [dm,gg,aF]⟩⟩
     · exact h.elim
   · exact h.elim
 · rename_i i g lo cP j
   split at h
   · rename_i e n t' bE k l ao hi
     rw [cY] at hi
     split at h
     · rename_i ah
       simp only [Bool.and_eq_true] at ah
       obtain ⟨d,I,aa⟩:=h
       have aa:aL.e i g k t' (lo+j) d 0 =z:=aa
       subst aa
       simp only [aw] at ad hy
       obtain ⟨_,aN,bp,bI,b2⟩:=ad
       rw [hi] at bI b2
       obtain ⟨cR,eR,bF,B,cF,q9,l1,cp,jn,_,bS⟩:=b2 (Nat.eq_of_beq_eq_true ah.1)
       obtain ⟨A,c,xs,ak,al,aT⟩:=hm.ok i _ _ hi bp
       rw [ak] at cF al
       simp only [Value.slice.injEq] at cF
       obtain ⟨rfl,rfl,rfl⟩:=cF
       obtain ⟨Bv,aaf,vO⟩:=arV q9 cp I
       obtain ⟨dY,rfl⟩:=Cw al (by omega)
       have qU:=Ky al
       obtain ⟨hu,aj⟩:=p9 ao
       have aF:=Nat.eq_of_beq_eq_true ah.2
       rw [bS (by omega)] at jn
       simp only [Option.map_some,jQ] at jn
       refine ⟨_,fun w'=>nM hu aj av jn hy rfl ⟨aaf,by omega⟩,?_⟩
       simp only [aw]
       refine ⟨trivial,_,bp,by rw [hi];exact bI,fun _=>⟨⟨_,_,_,ak,by omega,by omega,?_⟩,by rw [hi];exact Nat.le_refl _,fun _=>⟨l,by rw [hi];rfl,Bv⟩⟩⟩
       rw [hi]
       have:(lo+j).toNat=lo.toNat+j.toNat:=by omega
       simp [dm,gg,ix,aF,this,Nat.add_mul]
     · exact h.elim
   · exact h.elim
 · rename_i i g sz ek j
   split at h
   · rename_i e n ao
     split at h
     · rename_i ah
       obtain ⟨q,I,aa⟩:=h
       have aa:aL.wJ i g sz q=z:=aa
       subst aa
       simp only [aw] at ad hy
       obtain ⟨A,c,af,_,_,bb⟩:=ad
       obtain ⟨IQ,yS,sQ⟩:=j0 I
       have b5:ek≠ []:=by intro e;subst e;simp at yS
       obtain ⟨dH,aI,xs,bj,bk⟩:=bb b5
       obtain ⟨u,j_,rP⟩:=bj.at_ sQ
       obtain ⟨hu,aj⟩:=p9 ao
       have aF:=Nat.eq_of_beq_eq_true ah
       refine ⟨_,fun w'=>nM hu aj av af hy dH ⟨IQ,by omega⟩,?_⟩
       simp only [aw]
       refine ⟨dm A,gg A+j.toNat,u,by rw [aF];simp,aI,rP,fun m y hm=>?_⟩
       cases m with
       | zero=>
         simp only [List.getElem?_cons_zero,Option.some.injEq] at hm
         subst hm
         simpa using bk _ _ j_
       | succ m=>simp at hm
     · exact h.elim
   · exact h.elim
 · exact h.elim
def Nq (E:Env) (bl:List (aJ E.T.El)) (t:Nat):aL E.T.El->D (aL E.T.El)
 | .p (.string ⟨⟨p⟩⟩)=>match jJ (E.P.underlying t) with
   | some .s=>.ok (.p (.int .i64 (p.length:Int)))
   | _=>.no
 | .p (.slice _ n _)=>match jJ (E.P.underlying t) with
   | some .cl=>.ok (.p (.int .i64 (n:Int)))
   | _=>.no
 | .s _ l=>match jJ (E.P.underlying t) with
   | some .cl=>.ok (.p (.int .i64 (l.length:Int)))
   | _=>.no
 | .q _ l=>match jJ (E.P.underlying t) with
   | some .cl=>.ok (.p (.int .i64 (l.length:Int)))
   | _=>.no
 | .pp _ _ _ l=>match jJ (E.P.underlying t) with
   | some .cl=>.ok (.p (.int .i64 (l.length:Int)))
   | _=>.no
 | .r i g=>match jJ (E.P.underlying t),nth bl i with
   | some .cl,some (.r _ bE _ l)=>match Nat.beq g bE with
     | true=>.ok (.p (.int .i64 (l.length:Int)))
     | false=>.no
   | some .cl,some (.k _ sz bE cs)=>match Nat.beq g bE && Nat.blt 0 sz with
     | true=>.ok (.p (.int .i64 ((cs.length / sz:Nat):Int)))
     | false=>.no
   | _,_=>.no
 | .v i g lo hi=>match jJ (E.P.underlying t) with
   | some .cl=>match Nat.beq g (qO bl i) with
     | true=>.ok (.p (.int .i64 (hi - lo)))
     | false=>.no
   | _=>.no
 | _=>.no
theorem aoA {o:Oper} {a:Act} {t:Nat} {x:Operand} {u z:aL E.T.El} (hm:Mem E.T W M0 X bl ρ w) (h:(Nq E bl t u).out z) (av:o.op= .call { callee:=.builtin .len,args:=#[x],argTypes:=#[t] })
 (ad:aw E.T (bm X bl ρ w) w ρ bl u (a.eval x)):∃ r,jN E.P o a r/\aw E.T (bm X bl ρ w) w ρ bl z r:=by
 have fin:∀ {A:Option Addr} {n c:Nat},jJ (E.P.underlying t)=some .cl->a.eval x= .slice A n c->(D.ok (aL.p (.int .i64 (n:Int)))).out z-> ∃ r,jN E.P o a r/\aw E.T (bm X bl ρ w) w ρ bl z r:=fun {A n c} ai af h=>by
  have h:aL.p (.int .i64 (n:Int))=z:=h
  subst h
  obtain ⟨e,he⟩:=(s7 ai:lM.ok E.P t .cl)
  exact ⟨_,fun w'=>ahN he av af,by simp only [aw]⟩
 unfold Nq at h
 split at h
 · rename_i p
   split at h
   · rename_i ai
     have h:aL.p (.int .i64 (p.length:Int))=z:=h
     subst h
     simp only [aw] at ad
     exact ⟨_,fun w'=>ahO (s7 ai) av ad,by simp only [aw]⟩
   · exact h.elim
 · split at h
   · rename_i ai;simp only [aw] at ad;exact fin ai ad h
   · exact h.elim
 · split at h
   · rename_i ai;simp only [aw] at ad;obtain ⟨A,c,af⟩:=kK _ ad;exact fin ai af h
   · exact h.elim
 · split at h
   · rename_i ai;simp only [aw] at ad;obtain ⟨A,af⟩:=ad.2;exact fin ai af h
   · exact h.elim
 · split at h
   · rename_i ai;simp only [aw] at ad;obtain ⟨A,c,af,_⟩:=ad;exact fin ai af h
   · exact h.elim
 · rename_i i g
   split at h
   · rename_i t' bE k l ai hi
     rw [cY] at hi
     split at h
     · rename_i ah
       simp only [aw] at ad
       obtain ⟨_,aN,bp,bI,b2⟩:=ad
       rw [hi] at b2
       obtain ⟨A,c,xs,ak,_⟩:=hm.ok i _ _ hi bp
       exact fin ai ((b2 (Nat.eq_of_beq_eq_true ah)).trans ak) h
     · exact h.elim
   · rename_i t' sz bE cs ai hi
     rw [cY] at hi
     split at h
     · rename_i ah
       simp only [Bool.and_eq_true] at ah
       simp only [aw] at ad
       obtain ⟨_,aN,bp,bI,b2⟩:=ad
       rw [hi] at b2
       obtain ⟨A,m,c,xs,ak,al,aT⟩:=hm.ok i _ _ hi bp
       have hlen:=aT.len
       have aa:=al.len
       have dI:=Nat.le_of_ble_eq_true ah.2
       have aS:cs.length / sz=m:=by rw [<-hlen,aa];exact Nat.mul_div_cancel _ dI
       rw [aS] at h
       exact fin ai ((b2 (Nat.eq_of_beq_eq_true ah.1)).trans ak) h
     · exact h.elim
   · exact h.elim
 · rename_i i g lo cP
   split at h
   · rename_i ai
     split at h
     · rename_i ah
       have ah:=Nat.eq_of_beq_eq_true ah
       rw [yE] at ah
       simp only [aw] at ad
       obtain ⟨_,aN,bp,bI,b2⟩:=ad
       obtain ⟨A,m,c,B,cF,q9,l1,cp,af,_⟩:=b2 ah
       refine fin ai af ?_
       have h:aL.p (.int .i64 (cP - lo))=z:=h
       rw [<-h,show ((cP.toNat - lo.toNat:Nat):Int)=cP - lo by omega]
       exact rfl
     · exact h.elim
   · exact h.elim
 · exact h.elim
end
end bB
namespace bB
open Go Go.RowKit ax J
theorem amY {α:Type} {T:dh α} {F:Nat->Prop} {w:World} {A:Option Addr} {c:Nat} {li r:List α} {i j:Int} (h:(b3 T).rd F w [.slice A li.length c] li) (aB:cut li i j=some r) :
 (b3 T).rd F w [.slice (if c=i.toNat then A else A.map (·.add (i.toNat*T.size))) (j.toNat - i.toNat) (c - i.toNat)] r/\j.toNat - i.toNat=r.length/\li.length<=c:=by
 obtain ⟨⟨aP,I,aa⟩,rfl⟩:=MV aB
 obtain ⟨ec,c1,ak,al,aT,bU,dn⟩:=h
 simp only [List.cons.injEq,Value.slice.injEq,and_true,true_and] at ak
 obtain ⟨rfl,rfl⟩:=ak
 have hlen:((li.take j.toNat).drop i.toNat).length=j.toNat - i.toNat:=by rw [List.length_drop,List.length_take];omega
 refine ⟨?_,hlen.symm,al⟩
 refine ⟨_,c - i.toNat,by rw [hlen],by rw [hlen];omega,by omega,fun dH=>?_,fun b5=>?_⟩
 · split at dH
   · have:=bU dH;omega
   · cases A with
     | none=>have:=bU rfl;omega
     | some ej=>cases dH
 · have gO:0 <((li.take j.toNat).drop i.toNat).length:=List.length_pos_iff.2 b5
   have IV:li≠ []:=by intro e;subst e;simp at gO
   obtain ⟨dO,bE,xs,fM,iQ⟩:=dn IV
   have qV:c≠i.toNat:=by omega
   rw [if_neg qV,dO]
   refine ⟨?_,?_⟩
   · simp only [Option.map_some,jQ]
     rfl
   simp only [Option.map_some,jQ]
   refine ⟨bE,_,rF i.toNat j.toNat fM,fun q u hu=>?_⟩
   have aS:(xs.take (j.toNat*T.size))[i.toNat*T.size+q]? =some u:=by rwa [List.getElem?_drop] at hu
   rw [List.getElem?_take] at aS
   split at aS
   · have:=iQ (i.toNat*T.size+q) u aS
     simpa [dm,gg,Nat.add_assoc] using this
   · cases aS
def pd {El:Nat->Type} (z:Int):Option (aL El)->Option Int
 | none=>some z
 | some (.p (.int .i64 n))=>some n
 | _=>none
def qb (n:Nat) (lo hi:Int):Option Unit:=if 0 <=lo/\lo<=hi/\hi<=(n:Int) then some () else none
theorem ad2 {n:Nat} {lo hi:Int} {u:Unit} (h:qb n lo hi=some u):0 <=lo/\lo<=hi/\hi<=(n:Int):=by
 unfold qb at h
 split at h
 · assumption
 · cases h
def Df {El:Nat->Type}:Option (aL El)->Bool
 | none=>true
 | some (.p (.int .i64 (.ofNat 0)))=>true
 | _=>false
def Nk (E:Env) (bl:List (aJ E.T.El)) (t:Nat) (u:aL E.T.El) (lo hi:Option (aL E.T.El)):D (aL E.T.El):=match u with
 | .s t' l=>match my E.P t,pd 0 lo,pd (l.length:Int) hi with
   | some (_,n),some i,some j=>match Nat.beq n (E.T.ty t').size with
     | true=>.op (cut l i j) fun r=>.ok (.s t' r)
     | false=>.no
   | _,_,_=>.no
 | .p (.string ⟨⟨p⟩⟩)=>match jJ (E.P.underlying t),pd 0 lo,pd (p.length:Int) hi with
   | some .s,some i,some j=>.op (cut p i j) fun r=>.ok (.p (cm r))
   | _,_,_=>.no
 | .r i g=>match my E.P t,nth bl i with
   | some (_,n),some (.r t' bE _ l)=>match pd 0 lo,pd (l.length:Int) hi,Nat.beq g bE && Nat.beq n (E.T.ty t').size with
     | some a,some b,true=>.op (qb l.length a b) fun _=>.ok (.v i g a b)
     | _,_,_=>.no
   | _,_=>.no
 | .v i g p q=>match my E.P t,nth bl i with
   | some (_,n),some (.r t' bE _ l)=>match pd 0 lo,pd (q - p) hi,Nat.beq g bE && Nat.beq n (E.T.ty t').size with
     | some a,some b,true=>.op (qb (q - p).toNat a b) fun _=>.ok (.v i g (p+a) (p+b))
     | _,_,_=>.no
   | _,_=>.no
 | .p (.slice none 0 0)=>match my E.P t,Df lo && Df hi with
   | some _,true=>.ok (.p (.slice none 0 0))
   | _,_=>.no
 | _=>.no
section
variable {E:Env} {W w:World} {M0:List Nat} {X:Nat->Prop} {bl:List (aJ E.T.El)} {ρ:List Value} {a:Act}
def yn (E:Env) (F:Nat->Prop) (w:World) (ρ:List Value) (bl:List (aJ E.T.El)) (a:Act):Option Operand->Option (aL E.T.El)->Prop
 | none,none=>True
 | some x,some y=>aw E.T F w ρ bl y (a.eval x)
 | _,_=>False
theorem sp {F:Nat->Prop} {lo:Option Operand} {u:Option (aL E.T.El)} {z i:Int} (h:yn E F w ρ bl a lo u) (ah:pd z u=some i):(lo=none/\i=z)\/ ∃ x,lo=some x/\a.eval x= .int .i64 i:=by
 cases lo with
 | none=>
   cases u with
   | none=>simp only [pd,Option.some.injEq] at ah;exact .inl ⟨rfl,ah.symm⟩
   | some y=>exact h.elim
 | some x=>
   cases u with
   | none=>exact h.elim
   | some y=>
     right
     refine ⟨x,rfl,?_⟩
     have h:aw E.T F w ρ bl y (a.eval x):=h
     unfold pd at ah
     split at ah
     · rename_i e;cases e
     · rename_i n e
       simp only [Option.some.injEq] at e ah
       subst e;subst ah
       simpa only [aw] using h
     · cases ah
theorem L8 {F:Nat->Prop} {lo:Option Operand} {u:Option (aL E.T.El)} (h:yn E F w ρ bl a lo u) (ah:Df u=true):(lo=none/\(0 :Int)= 0)\/ ∃ x,lo=some x/\a.eval x= .int .i64 0 :=by
 refine sp (z:=0) (i:=0) h ?_
 unfold Df at ah
 split at ah
 · rfl
 · rfl
 · cases ah
theorem aot {o:Oper} {t:Nat} {x:Operand} {lo hi:Option Operand} {u z:aL E.T.El} {adI adH:Option (aL E.T.El)} (hm:Mem E.T W M0 X bl ρ w) (h:(Nk E bl t u adI adH).out z) (av:o.op= .slice t x lo hi none)
 (ad:aw E.T (bm X bl ρ w) w ρ bl u (a.eval x)) (m6:yn E (bm X bl ρ w) w ρ bl a lo adI) (jG:yn E (bm X bl ρ w) w ρ bl a hi adH):∃ r,jN E.P o a r/\aw E.T (bm X bl ρ w) w ρ bl z r:=by
 unfold Nk at h
 split at h
 · rename_i t' l
   split at h
   · rename_i e n i j ao I aa
     split at h
     · rename_i ah
       obtain ⟨r,au,bb⟩:=h
       have bb:aL.s t' r=z:=bb
       subst bb
       obtain ⟨hu,aj⟩:=p9 ao
       simp only [aw] at ad
       obtain ⟨A,c,af⟩:=kK _ ad
       rw [af] at ad
       obtain ⟨bj,bk,cg⟩:=amY ad au
       have aF:=Nat.eq_of_beq_eq_true ah
       subst aF
       exact ⟨_,fun w'=>L0 hu aj av af (sp m6 I) (sp jG aa) (MV au).1 cg,by simp only [aw];exact bj⟩
     · exact h.elim
   · exact h.elim
 · rename_i p
   split at h
   · rename_i i j ai I aa
     obtain ⟨r,au,bb⟩:=h
     have bb:aL.p (cm r)=z:=bb
     subst bb
     simp only [aw] at ad
     exact ⟨_,fun w'=>aC5 (s7 ai) av ad (sp m6 I) (sp jG aa) au,by simp only [aw]⟩
   · exact h.elim
 · rename_i i g
   split at h
   · rename_i e n t' bE k l ao cP
     rw [cY] at cP
     split at h
     · rename_i p q I aa ah
       simp only [Bool.and_eq_true] at ah
       obtain ⟨r,au,bb⟩:=h
       have bb:aL.v i g p q=z:=bb
       subst bb
       obtain ⟨hu,aj⟩:=p9 ao
       simp only [aw] at ad
       obtain ⟨_,aN,bp,bI,b2⟩:=ad
       rw [cP] at bI b2
       have jn:=b2 (Nat.eq_of_beq_eq_true ah.1)
       obtain ⟨A,c,xs,ak,al,aT⟩:=hm.ok i _ _ cP bp
       rw [ak] at jn al
       obtain ⟨a0,v1,v2⟩:=ad2 au
       have aF:=Nat.eq_of_beq_eq_true ah.2
       subst aF
       refine ⟨_,fun w'=>L0 hu aj av jn (sp m6 I) (sp jG aa) ⟨a0,v1,v2⟩ (Ky al),?_⟩
       simp only [aw]
       have dH:A=A.map (·.add (0 *(E.T.ty t').size)):=by
        cases A <;> simp [Addr.add]
       refine ⟨trivial,aN,bp,by rw [cP];exact bI,fun _=>⟨A,_,c,_,ak,a0,v1,v2,rfl,fun e=>?_,fun e=>?_⟩⟩
       · subst e
         split
         · rfl
         · exact dH.symm
       · rw [if_neg (by have:=Ky al;omega),cP];rfl
     · exact h.elim
   · exact h.elim
 · rename_i i g p q
   split at h
   · rename_i e n t' bE k l ao cP
     rw [cY] at cP
     split at h
     · rename_i s r I aa ah
       simp only [Bool.and_eq_true] at ah
       obtain ⟨_,au,bb⟩:=h
       have bb:aL.v i g (p+s) (p+r)=z:=bb
       subst bb
       obtain ⟨hu,aj⟩:=p9 ao
       simp only [aw] at ad
       obtain ⟨_,aN,bp,bI,b2⟩:=ad
       rw [cP] at bI b2
       obtain ⟨cR,eR,bF,B,cF,q9,l1,cp,jn,Iz,bS⟩:=b2 (Nat.eq_of_beq_eq_true ah.1)
       obtain ⟨A,c,xs,ak,al,aT⟩:=hm.ok i _ _ cP bp
       rw [ak] at cF al
       simp only [Value.slice.injEq] at cF
       obtain ⟨rfl,rfl,rfl⟩:=cF
       have qU:=Ky al
       obtain ⟨a0,v1,v2⟩:=ad2 au
       have aF:=Nat.eq_of_beq_eq_true ah.2
       subst aF
       have Y4:=sp jG aa
       rw [show q - p=((q.toNat - p.toNat:Nat):Int) by omega] at Y4
       refine ⟨_,fun w'=>L0 hu aj av jn (sp m6 I) Y4 ⟨a0,v1,by omega⟩ (by omega),?_⟩
       simp only [aw]
       have EX:(p+s).toNat=p.toNat+s.toNat:=by omega
       have jI:(p+r).toNat=p.toNat+r.toNat:=by omega
       refine ⟨trivial,aN,bp,by rw [cP];exact bI,fun _=>⟨A,_,c,(if c - p.toNat=s.toNat then B else B.map (·.add (s.toNat*(E.T.ty t').size))),ak,by omega,by omega,by omega,?_,fun e=>?_,fun e=>?_⟩⟩
       · rw [EX,jI,show p.toNat+r.toNat - (p.toNat+s.toNat)=r.toNat - s.toNat by omega,show c - p.toNat - s.toNat=c - (p.toNat+s.toNat) by omega]
       · have vF:p= 0 :=by omega
         have y2:s= 0 :=by omega
         subst vF;subst y2
         rw [Iz rfl]
         split
         · rfl
         · cases A <;> simp [Addr.add]
       · obtain ⟨dY,rfl⟩:=Cw al (by omega)
         rw [if_neg (by omega),bS (by omega),cP]
         simp [jQ,ix,EX,Nat.add_mul]
     · exact h.elim
   · exact h.elim
 · split at h
   · rename_i e ao ah
     have h:aL.p (.slice none 0 0)=z:=h
     subst h
     simp only [Bool.and_eq_true] at ah
     obtain ⟨hu,aj⟩:=p9 ao
     simp only [aw] at ad
     exact ⟨_,fun w'=>aC4 hu aj av ad (L8 m6 ah.1) ((L8 jG ah.2).imp (fun h=>⟨h.1,rfl⟩) id),by simp only [aw]⟩
   · exact h.elim
 · exact h.elim
end
end bB
namespace bB
open Go Go.RowKit ax J
def ri {cJ β:Type} (K:iM cJ) (d:List (cJ × β)) (k:cJ):Option β:=@dz cJ β K.dec d k
def iZ {cJ β:Type} (K:iM cJ) (d:List (cJ × β)) (k:cJ):Option Nat:=@nj cJ β K.dec d k
def rj {cJ β:Type} (K:iM cJ) (d:List (cJ × β)) (k:cJ) (v:β):List (cJ × β):=@hD cJ β K.dec d k v
abbrev iM.enc {cJ:Type} (K:iM cJ):cJ->Value:=@ki.enc cJ K.dec K.pH
abbrev iM.desc {cJ:Type} (K:iM cJ):TypeDesc:=@ki.desc cJ K.dec K.pH
section
variable {T:b6} {F:Nat->Prop} {w:World} {bT vt:Nat} {K:iM (T.El bT)}
theorem NH (k:T.El bT):∀ {es:List MapEntry} {d:List (T.El bT × T.El vt)} (i:Nat),jz T F w K es d ->
 (ri K d k=none/\iZ K d k=none/\Instr.findNow K.desc (K.enc k) es i=some none)\/(∃ p x v,ri K d k=some x/\iZ K d k=some p/\yo T F w vt x v/\Instr.findNow K.desc (K.enc k) es i=some (some (i+p,v)))
 | [],[],i,_=>.inl ⟨rfl,rfl,rfl⟩
 | [],_::_,_,h=>h.elim
 | _::_,[],_,h=>h.elim
 | e::es,p::d,i,h=>by
   obtain ⟨I,aa,au⟩:=h
   have ao:Instr.sameNow K.desc (K.enc k) e.key=some (@decide (p.1 =k) (K.dec p.1 k)):=by rw [I];exact @ki.same _ K.dec K.pH k p.1
   by_cases aH:p.1 =k
   · right
     refine ⟨0,p.2,e.val,?_,?_,aa,?_⟩
     · simp only [ri,dz,if_pos aH]
     · simp only [iZ,nj,if_pos aH]
     · simp only [Instr.findNow,ao,aH,decide_true,Nat.add_zero]
   · have ak:Instr.findNow K.desc (K.enc k) (e::es) i=Instr.findNow K.desc (K.enc k) es (i+ 1):=by simp only [Instr.findNow,ao,aH,decide_false]
     rcases NH k (i+ 1) au with ⟨bp,bI,b2⟩ | ⟨q,x,v,bp,bI,b2,gj⟩
     · left
       refine ⟨?_,?_,by rw [ak];exact b2⟩
       · simp only [ri,dz,if_neg aH];exact bp
       · simp only [iZ,nj,if_neg aH]
         simp only [iZ] at bI
         rw [bI];rfl
     · right
       refine ⟨q+ 1,x,v,?_,?_,b2,?_⟩
       · simp only [ri,dz,if_neg aH];exact bp
       · simp only [iZ,nj,if_neg aH]
         simp only [iZ] at bI
         rw [bI];rfl
       · rw [ak,gj,show i+ 1 +q=i+(q+ 1) by omega]
theorem jz.len:∀ {es:List MapEntry} {d:List (T.El bT × T.El vt)},jz T F w K es d->es.length=d.length
 | [],[],_=>rfl
 | [],_::_,h=>h.elim
 | _::_,[],h=>h.elim
 | _::_,_::_,h=>by simp [jz.len h.2.2]
theorem Th {P:Program} {es:Array MapEntry} {d:List (T.El bT × T.El vt)} {t:Nat} (k:T.El bT) (ai:P.underlying t=some K.desc) (he:jz T F w K es.toList d) (w':World) :
 (ri K d k=none/\iZ K d k=none/\(Instr.findKey t (K.enc k) es.toList).run P w'= .ok none w')\/(∃ p x v,ri K d k=some x/\iZ K d k=some p/\yo T F w vt x v/\(Instr.findKey t (K.enc k) es.toList).run P w'= .ok (some (p,v)) w'):=by
 rcases NH k 0 he with ⟨I,aa,au⟩ | ⟨p,x,v,I,aa,au,bb⟩
 · left
   refine ⟨I,aa,?_⟩
   simp only [Instr.findKey,Sem.run_bind,run_underlying ai,Result.andThen_ok,au]
   rfl
 · right
   refine ⟨p,x,v,I,aa,au,?_⟩
   simp only [Instr.findKey,Sem.run_bind,run_underlying ai,Result.andThen_ok,bb,Nat.zero_add]
   rfl
end
def HU:Option TypeDesc->TypeDesc->Bool
 | some (.int k),.int k'=>lf k k'
 | some .string,.string=>true
 | _,_=>false
theorem W8 {o:Option TypeDesc} {d:TypeDesc} (h:HU o d=true):o=some d:=by
 unfold HU at h
 split at h
 · rw [nd h]
 · rfl
 · cases h
def Vo:Value->Bool->Bool
 | .agg _,b=>b
 | _,b=>!b
def Dg (P:Program) (t:TypeId):Option Value:=match P.info? t with
 | some i=>i.zero
 | none=>none
theorem aDu {P:Program} {t:TypeId} {z:Value} (h:Dg P t=some z):∀ w,(zeroValue t).run P w= .ok z w:=by
 unfold Dg at h
 split at h
 · rename_i i I
   intro w
   simp only [zeroValue,typeInfo,Sem.run_bind]
   simp [go_sem,I,h]
 · cases h
theorem ah4 {z:Value} {b:Bool} (h:Vo z b=true):z=wC b z.cells.toList:=by
 unfold Vo at h
 split at h
 · rename_i cs
   subst h
   obtain ⟨vs⟩:=cs
   rfl
 · rename_i aj
   have ah:b=false:=by simpa using h
   subst ah
   cases z <;> first | rfl | exact (aj _ rfl).elim
def uy (E:Env) (vt DS:Nat):Option (E.T.El vt):=match Dg E.P DS with
 | some z=>match Vo z (E.T.e vt).agg with
   | true=>(E.T.e vt).gQ (z.cells.toList.map .p)
   | false=>none
 | none=>none
def mapOf (P:Program) (t:TypeId):Option (Nat × Nat):=match P.underlying t with
 | some (.map k e)=>some (k,e)
 | _=>none
theorem QW {P:Program} {t k e:Nat} (h:mapOf P t=some (k,e)):P.underlying t=some (.map k e):=by
 unfold mapOf at h
 split at h
 · rename_i I
   simp only [Option.some.injEq,Prod.mk.injEq] at h
   obtain ⟨rfl,rfl⟩:=h
   exact I
 · cases h
def Jv {El:Nat->Type} (bl:List (aJ El)):aL El->Option (Σ Jg:Nat × Nat,List (El Jg.1 × El Jg.2))
 | .m i=>match nth bl i with
   | some (.m bT vt d)=>some ⟨(bT,vt),d⟩
   | _=>none
 | .n bT vt d=>some ⟨(bT,vt),d⟩
 | _=>none
def B2 (E:Env) (ok:Bool) {bT vt:Nat} (K:iM (E.T.El bT)) (d:List (E.T.El bT × E.T.El vt)) (k:E.T.El bT) (z:E.T.El vt):aL E.T.El:=match ok with
 | true=>.u [E.T.val vt ((ri K d k).getD z),.p (.bool (ri K d k).isSome)]
 | false=>E.T.val vt ((ri K d k).getD z)
def Ns (E:Env) (bl:List (aJ E.T.El)) (t:Nat) (ok:Bool) (u v:aL E.T.El):D (aL E.T.El):=match mapOf E.P t,Jv bl u with
 | some (k,e),some ⟨(bT,vt),d⟩=>match (E.T.e bT).key with
   | some K=>match HU (E.P.underlying k) K.desc,(E.T.e bT).gQ (cellsOf v),uy E vt e,(match j1 v with | true=>(E.T.e bT).agg | false=>!(E.T.e bT).agg) with
     | true,some key,some z,true=>.ok (B2 E ok K d key z)
     | _,_,_,_=>.no
   | none=>.no
 | _,_=>.no
section
variable {E:Env} {W w:World} {M0:List Nat} {X:Nat->Prop} {bl:List (aJ E.T.El)} {ρ:List Value} {a:Act}
def zA {El:Nat->Type}:aL El->Option Nat
 | .m i=>some i
 | _=>none
theorem aaR (hm:Mem E.T W M0 X bl ρ w) {u:aL E.T.El} {v:Value} {bT vt:Nat} {d:List (E.T.El bT × E.T.El vt)} (h:Jv bl u=some ⟨(bT,vt),d⟩) (af:aw E.T (bm X bl ρ w) w ρ bl u v) :
 ∃ r,v= .map (some r)/\uN E.T (bm X bl ρ w) w bT vt r d/\Hn X bl ρ w r (zA u):=by
 cases u <;> simp only [Jv,reduceCtorEq] at h
 · rename_i i
   split at h
   · rename_i asp azw d' hi
     simp only [Option.some.injEq,Sigma.mk.injEq,Prod.mk.injEq] at h
     obtain ⟨⟨rfl,rfl⟩,h⟩:=h
     have h:=eq_of_heq h
     subst h
     rw [cY] at hi
     simp only [aw] at af
     obtain ⟨r,I,rfl⟩:=af
     obtain ⟨h4,ak,al⟩:=hm.ok i _ _ hi I
     simp only [Value.map.injEq,Option.some.injEq] at ak
     subst ak
     exact ⟨r,rfl,al,_,_,hi,I,by simp [bA,ah]⟩
   · cases h
 · rename_i asp azw d'
   simp only [Option.some.injEq,Sigma.mk.injEq,Prod.mk.injEq] at h
   obtain ⟨⟨rfl,rfl⟩,h⟩:=h
   have h:=eq_of_heq h
   subst h
   simp only [aw] at af
   obtain ⟨r,rfl,I,aa⟩:=af
   exact ⟨r,rfl,aa,I⟩
theorem Mz {F:Nat->Prop} {u:aL E.T.El} {v:Value} {b:Bool} (af:aw E.T F w ρ bl u v) (h:(match j1 u with | true=>b | false=>!b)=true):v=wC b v.cells.toList:=by
 cases aD:j1 u with
 | true=>
   rw [aD] at h
   have h:b=true:=h
   subst h
   exact E2 aD af
 | false=>
   rw [aD] at h
   have h:b=false:=by simpa using h
   subst h
   have hc:=mR af
   have:v.cells.toList= [v]:=by
    cases u with
    | p u=>
      simp only [aw] at af
      subst af
      cases v <;> first | rfl | (simp [j1] at aD)
    | a l=>simp [j1] at aD
    | b i o=>simp only [aw] at af;obtain ⟨g,_,rfl⟩:=af;rfl
    | x t d o=>simp only [aw] at af;obtain ⟨_,_,_,rfl,_⟩:=af;rfl
    | s t l=>simp only [aw] at af;obtain ⟨A,c,e⟩:=kK _ af;subst e;rfl
    | q t l=>simp only [aw] at af;obtain ⟨_,A,rfl⟩:=af;rfl
    | r i g=>simp only [aw] at af;exact HO af.1
    | v i g lo hi=>simp only [aw] at af;exact HO af.1
    | e i g k t j d o=>simp only [aw] at af;exact HN af.1
    | w i g o=>simp only [aw] at af;exact HN af.1
    | m i=>simp only [aw] at af;obtain ⟨g,_,rfl⟩:=af;rfl
    | n _ _ _=>simp only [aw] at af;obtain ⟨g,rfl,_⟩:=af;rfl
    | f fn cs=>simp only [aw] at af;obtain ⟨g,rfl,_⟩:=af;rfl
    | h fn us=>simp only [aw] at af;obtain ⟨g,rfl,_⟩:=af;rfl
    | u l=>simp only [aw] at af;obtain ⟨g,rfl,_⟩:=af;rfl
    | i t z=>simp only [aw] at af;obtain ⟨g,rfl,_⟩:=af;rfl
    | pp i g sz ek=>simp only [aw] at af;obtain ⟨_,_,rfl,_⟩:=af;rfl
    | wJ i g sz q=>simp only [aw] at af;obtain ⟨_,_,_,rfl,_⟩:=af;rfl
   rw [this];rfl
theorem ad1 (a5:du E) {F:Nat->Prop} {vt:Nat} {x:E.T.El vt} {v:Value} (h:yo E.T F w vt x v):aw E.T F w ρ bl (E.T.val vt x) v:=by
 obtain ⟨xs,I,rfl⟩:=h
 exact a5.tb.val I
theorem val_zero (a5:du E) {F:Nat->Prop} {vt DS:Nat} {z:E.T.El vt} (h:uy E vt DS=some z):∃ eL,(∀ w,(zeroValue DS).run E.P w= .ok eL w)/\aw E.T F w ρ bl (E.T.val vt z) eL:=by
 unfold uy at h
 split at h
 · rename_i eL I
   split at h
   · rename_i aa
     refine ⟨eL,aDu I,?_⟩
     have:=a5.tb.gQ _ _ _ h F w ρ bl _ (p5 eL.cells.toList)
     rw [ah4 aa]
     have af:=a5.tb.val (ρ:=ρ) (bl:=bl) this
     exact af
   · cases h
 · cases h
theorem aoC (a5:du E) (hm:Mem E.T W M0 X bl ρ w) {o:Oper} {t:Nat} {ok:Bool} {x y:Operand} {u v z:aL E.T.El} (h:(Ns E bl t ok u v).out z) (av:o.op= .lookup t x y ok)
 (ad:aw E.T (bm X bl ρ w) w ρ bl u (a.eval x)) (hy:aw E.T (bm X bl ρ w) w ρ bl v (a.eval y)) :
 ∃ r q,aw E.T (bm X bl ρ w) w ρ bl z r/\Hn X bl ρ w q (zA u)/\ ∀ w',w'.heap[q]? =w.heap[q]? ->bh E.P o a w' r w':=by
 unfold Ns at h
 split at h
 · rename_i k e bT vt d I aa
   split at h
   · rename_i K cT
     split at h
     · rename_i key hT aN PA aj sE
       have h:B2 E ok K d key hT=z:=h
       subst h
       obtain ⟨q,m7,⟨alL,D9,es,fJ,di,eg,ll⟩,q4⟩:=aaR hm aa ad
       rw [cT] at D9
       cases D9
       have EC:a.eval y=K.enc key:=by
        have ak:=a5.tb.gQ _ _ _ PA _ _ _ _ _ (mR hy)
        have al:=a5.tb.key _ _ cT _ _ _ _ ak
        exact (Mz hy sE).trans al
       have hu:=QW I
       have sR:=W8 aN
       obtain ⟨eL,mb,Z3⟩:=val_zero a5 (w:=w) (F:=bm X bl ρ w) (ρ:=ρ) (bl:=bl) aj
       have acR:∀ w',w'.heap[q]? =w.heap[q]? ->(Instr.lookup t (.map (some q)) (K.enc key) ok).run E.P w'=(do
        let (v,avb) <-match <-Instr.findKey k (K.enc key) es.toList with
         | some (_,v)=>pure (v,true)
         | none=>pure (<-zeroValue e,false)
        pure (if ok then Value.tuple #[v,.bool avb] else v):Sem Value).run E.P w':=fun w' hw=>by
        simp only [Instr.lookup,Sem.run_bind,Sem.run_pure,run_underlying hu,Result.andThen_ok,MapKept.run_getObj_map (hw.trans di),@ki.check _ K.dec K.pH E.P w' es.isEmpty k key sR]
        rfl
       rcases Th (vt:=vt) key sR eg w with ⟨f1,f2,_⟩ | ⟨p,ahI,CO,f1,f2,f3,f6⟩
       · refine ⟨if ok then .tuple #[eL,.bool false] else eL,q,?_,q4,fun w' hw=>?_⟩
         · cases ok with
           | true=>simp only [B2,f1,Option.getD_none,Option.isSome_none,aw,if_true];exact ⟨[eL,.bool false],rfl,by simp only [a4];exact ⟨_,_,rfl,Z3,_,_,rfl,by simp only [aw],rfl⟩⟩
           | false=>simp only [B2,f1,Option.getD_none];exact Z3
         · simp only [bh,execOp,av,m7,EC,Sem.run_bind,acR w' hw]
           rcases Th (vt:=vt) key sR eg w' with ⟨_,_,f4⟩ | ⟨p,ahI,CO,dO,_⟩
           · simp only [f4,Result.andThen_ok,Sem.run_bind,mb,Sem.run_pure]
           · rw [f1] at dO;cases dO
       · refine ⟨if ok then .tuple #[CO,.bool true] else CO,q,?_,q4,fun w' hw=>?_⟩
         · cases ok with
           | true=>simp only [B2,f1,Option.getD_some,Option.isSome_some,aw,if_true];exact ⟨[CO,.bool true],rfl,by simp only [a4];exact ⟨_,_,rfl,ad1 a5 f3,_,_,rfl,by simp only [aw],rfl⟩⟩
           | false=>simp only [B2,f1,Option.getD_some];exact ad1 a5 f3
         · simp only [bh,execOp,av,m7,EC,Sem.run_bind,acR w' hw]
           have f5:∀ w',(Instr.findKey k (K.enc key) es.toList).run E.P w'= .ok (some (p,CO)) w':=by
            intro w'
            rcases NH (vt:=vt) key 0 eg with ⟨dO,_⟩ | ⟨rA,nG,fi,dO,bE,fM,iQ⟩
            · rw [f1] at dO;cases dO
            · have:(Instr.findKey k (K.enc key) es.toList).run E.P w= .ok (some (rA,fi)) w:=by
               simp only [Instr.findKey,Sem.run_bind,run_underlying sR,Result.andThen_ok,iQ,Nat.zero_add]
               rfl
              rw [f6] at this
              simp only [Result.ok.injEq,Option.some.injEq,Prod.mk.injEq,and_true] at this
              obtain ⟨rfl,rfl⟩:=this
              simp only [Instr.findKey,Sem.run_bind,run_underlying sR,Result.andThen_ok,iQ,Nat.zero_add]
              rfl
           simp only [f5,Result.andThen_ok,Sem.run_bind,Sem.run_pure]
     · exact h.elim
   · exact h.elim
 · exact h.elim
def Nr (E:Env) (bl:List (aJ E.T.El)) (t:Nat) (u:aL E.T.El):D (aL E.T.El):=match mapOf E.P t,Jv bl u with
 | some _,some ⟨_,d⟩=>.ok (.p (.int .i64 (d.length:Int)))
 | _,_=>.no
theorem aoz (hm:Mem E.T W M0 X bl ρ w) {o:Oper} {t:Nat} {x:Operand} {u z:aL E.T.El} (h:(Nr E bl t u).out z) (av:o.op= .call { callee:=.builtin .len,args:=#[x],argTypes:=#[t] })
 (ad:aw E.T (bm X bl ρ w) w ρ bl u (a.eval x)):∃ r q,aw E.T (bm X bl ρ w) w ρ bl z r/\Hn X bl ρ w q (zA u)/\ ∀ w',w'.heap[q]? =w.heap[q]? ->bh E.P o a w' r w':=by
 unfold Nr at h
 split at h
 · rename_i E5 Jg d I aa
   have h:aL.p (.int .i64 (d.length:Int))=z:=h
   subst h
   obtain ⟨q,m7,⟨K,cT,es,fJ,di,eg,ll⟩,q4⟩:=aaR hm aa ad
   have hu:=QW I
   have ap:es.size=d.length:=by have:=eg.len;simpa using this
   refine ⟨.int .i64 (d.length:Int),q,by simp only [aw],q4,fun w' hw=>?_⟩
   simp only [bh,execOp,av,resolve,invoke,List.map_toArray,List.map_cons,List.map_nil,m7]
   simp [go_sem,Builtin.len_,run_underlying hu,goInt,MapKept.run_getObj_map (hw.trans di),ap]
 · exact h.elim
def Nv (E:Env) (t j:Nat) (u:aL E.T.El):D (aL E.T.El):=match j1 u,Ig E.P t j with
 | true,some (off,n_,_)=>match lay E.P n_ with
   | some gF=>.of (k2 (cellsOf u) off gF)
   | none=>.no
 | _,_=>.no
theorem aoF {F:Nat->Prop} {o:Oper} {t j:Nat} {x:Operand} {u z:aL E.T.El} (h:(Nv E t j u).out z) (av:o.op= .field t x j) (ad:aw E.T F w ρ bl u (a.eval x)):∃ r,jN E.P o a r/\aw E.T F w ρ bl z r:=by
 unfold Nv at h
 split at h
 · rename_i off n_ sz sE ag
   split at h
   · rename_i gF ap
     have h:=D.nl h
     obtain ⟨cx,f,bj,bk,cg,c',nc,vP⟩:=YC ag
     have af:=E2 sE ad
     have hc:=mR ad
     obtain ⟨b,n⟩:=gF
     have yW:=E_ ap
     subst c';subst cg
     cases b with
     | false=>
       simp only [k2] at h
       rw [cY] at h
       obtain ⟨v,I,aa⟩:=hc.at_ h
       have Bv:(a.eval x).cells[f.offset]? =some v:=by rw [<-Array.getElem?_toList];exact I
       refine ⟨v,fun w'=>?_,aa⟩
       simp only [bh,execOp,av,Instr.field,Sem.run_bind,run_underlying bj,Result.andThen_ok,bk]
       rw [af]
       simp [asAgg,part,yW.1,Bv]
     | true=>
       simp only [k2] at h
       split at h
       · rename_i ah
         simp only [Option.some.injEq] at h
         subst h
         have hle:=Nat.le_of_ble_eq_true ah
         have hlen:=hc.len
         refine ⟨.agg ⟨((a.eval x).cells.toList.drop f.offset).take n⟩,fun w'=>?_,?_⟩
         · simp only [bh,execOp,av,Instr.field,Sem.run_bind,run_underlying bj,Result.andThen_ok,bk]
           rw [af]
           simp only [asAgg,part,Sem.run_bind,Sem.run_pure,yW.1,yW.2,Result.andThen_ok,if_true]
           congr 2
           apply congrArg Value.agg
           rw [<-Array.toList_inj]
           simp [List.extract_eq_take_drop,Nat.add_sub_cancel_left,Value.cells]
         · simp only [aw]
           exact ⟨_,rfl,a4.take n (a4.drop _ hc)⟩
       · cases h
   · exact h.elim
 · exact h.elim
end
end bB
namespace bB
open Go Go.RowKit ax J
structure cE (El:Nat->Type) where
 a_:List (Nat × aL El)
 gs:List (Nat × Nat × Bool × aL El)
 ef:List (Nat × Bool)
def B1 {El:Nat->Type}:List (Nat × Nat × Bool × aL El)->List (Nat × Bool)->Nat->Option (aL El)
 | [],_,_=>none
 | p::r,cur,t=>match Nat.beq p.1 t && yK cur p.2.1 p.2.2.1 with
   | true=>some p.2.2.2
   | false=>B1 r cur t
def wL {El:Nat->Type}:List (Nat × Nat × Bool × aL El)->Nat->List (Nat × Nat × Bool × aL El)
 | [],_=>[]
 | p::r,d=>match Nat.beq p.1 d || Nat.beq p.2.1 d with
   | true=>wL r d
   | false=>p::wL r d
structure mI (T:b6) (F:Nat->Prop) (w:World) (ρ:List Value) (bl:List (aJ T.El)) (n:cN) (f:cE T.El) (a:Act):Prop where
 ii:qo T F w ρ bl n f.a_ a
 gs:∀ p ∈ f.gs,a.tmps.getD p.2.1 undef= .bool p.2.2.1 ->aw T F w ρ bl p.2.2.2 (a.tmps.getD p.1 undef)
 ef:∀ p ∈ f.ef,a.tmps.getD p.1 undef= .bool p.2
section
variable {T:b6} {F F':Nat->Prop} {w w':World} {ρ ρ':List Value} {bl bl':List (aJ T.El)} {n:cN} {f:cE T.El} {a:Act}
theorem mI.later (aI:∀ k,F k->F' k/\w'.heap[k]? =w.heap[k]?) (ap:lN T ρ ρ' bl bl') (h:mI T F w ρ bl n f a):mI T F' w' ρ' bl' n f a:=⟨h.ii.later aI ap,fun p aH ah=>(h.gs p aH ah).later aI ap,h.ef⟩
theorem QS (h:mI T F w ρ bl n f a) {cur:List (Nat × Bool)} (hc:iO a cur):∀ {gs:List (Nat × Nat × Bool × aL T.El)} {t:Nat} {y:aL T.El},(∀ p ∈ gs,p ∈ f.gs)->B1 gs cur t=some y->aw T F w ρ bl y (a.tmps.getD t undef)
 | [],_,_,_,aa=>by simp [B1] at aa
 | p::r,t,y,I,aa=>by
   simp only [B1] at aa
   split at aa
   · rename_i ah
     simp only [Bool.and_eq_true,Option.some.injEq] at ah aa
     subst aa
     have:=h.gs p (I p (by simp)) (Zc hc ah.2)
     rwa [Nat.eq_of_beq_eq_true ah.1] at this
   · exact QS h hc (fun q aS=>I q (by simp [aS])) aa
theorem Tc {d:Nat} {p:Nat × Nat × Bool × aL T.El}:∀ {gs:List (Nat × Nat × Bool × aL T.El)},p ∈ wL gs d->p ∈ gs/\p.1 ≠d/\p.2.1 ≠d
 | [],h=>by simp [wL] at h
 | q::r,h=>by
   simp only [wL] at h
   split at h
   · obtain ⟨I,aa⟩:=Tc h;exact ⟨by simp [I],aa⟩
   · rename_i ah
     simp only [Bool.or_eq_false_iff] at ah
     rcases List.mem_cons.1 h with rfl | h
     · exact ⟨by simp,fun e=>by rw [e] at ah;simp at ah,fun e=>by rw [e] at ah;simp at ah⟩
     · obtain ⟨I,aa⟩:=Tc h;exact ⟨by simp [I],aa⟩
theorem Tb {α:Type} {d:Nat} {p:Nat × α}:∀ {l:List (Nat × α)},p ∈ mw l d->p ∈ l/\p.1 ≠d
 | [],h=>by simp [mw] at h
 | q::r,h=>by
   simp only [mw] at h
   split at h
   · obtain ⟨I,aa⟩:=Tb h;exact ⟨by simp [I],aa⟩
   · rename_i ah
     rcases List.mem_cons.1 h with rfl | h
     · exact ⟨by simp,fun e=>by rw [e] at ah;simp at ah⟩
     · obtain ⟨I,aa⟩:=Tb h;exact ⟨by simp [I],aa⟩
def cE.put (f:cE T.El) (d:Nat) (y:aL T.El):cE T.El:=⟨(d,y)::mw f.a_ d,wL f.gs d,mw f.ef d⟩
def cE.oH (f:cE T.El) (d j:Nat) (b:Bool) (y:aL T.El):cE T.El:=⟨mw f.a_ d,(d,j,b,y)::wL f.gs d,mw f.ef d⟩
theorem mI.ab2 {d:Nat} {v:Value} (h:mI T F w ρ bl n f a) (aN:Nat.blt d n.n=true):(∀ p ∈ wL f.gs d,(a.put (some d) v).tmps.getD p.2.1 undef= .bool p.2.2.1 ->aw T F w ρ bl p.2.2.2 ((a.put (some d) v).tmps.getD p.1 undef))/\ ∀ p ∈ mw f.ef d,(a.put (some d) v).tmps.getD p.1 undef= .bool p.2 :=by
 have bx:d <a.tmps.size:=by rw [h.ii.size];exact Nat.le_of_ble_eq_true aN
 refine ⟨fun p aH ah=>?_,fun p aH=>?_⟩
 · obtain ⟨I,aa,au⟩:=Tc aH
   rw [yC bx,if_neg (Ne.symm au)] at ah
   rw [yC bx,if_neg (Ne.symm aa)]
   exact h.gs p I ah
 · obtain ⟨I,aa⟩:=Tb aH
   rw [yC bx,if_neg (Ne.symm aa)]
   exact h.ef p I
theorem mI.put {d:Nat} {y:aL T.El} {v:Value} (h:mI T F w ρ bl n f a) (aN:Nat.blt d n.n=true) (af:aw T F w ρ bl y v):mI T F w ρ bl n (f.put d y) (a.put (some d) v):=by
 obtain ⟨I,aa⟩:=h.ab2 (v:=v) aN
 refine ⟨⟨(h.ii.put aN af).size,(h.ii.put aN af).defers,fun t z aj=>(h.ii.put aN af).get t z ?_⟩,I,aa⟩
 simp only [cE.put,eI] at aj ⊢
 split at aj
 · exact aj
 · exact (Jq aj).2
theorem mI.oH {d j:Nat} {b:Bool} {y:aL T.El} {v:Value} (h:mI T F w ρ bl n f a) (aN:Nat.blt d n.n=true) (b5:Nat.beq j d=false) (af:a.tmps.getD j undef= .bool b->aw T F w ρ bl y v):mI T F w ρ bl n (f.oH d j b y) (a.put (some d) v):=by
 obtain ⟨I,aa⟩:=h.ab2 (v:=v) aN
 have bx:d <a.tmps.size:=by rw [h.ii.size];exact Nat.le_of_ble_eq_true aN
 have aqA:d≠j:=fun e=>by subst e;simp at b5
 refine ⟨h.ii.Kx aN,fun p aH ah=>?_,aa⟩
 rcases List.mem_cons.1 aH with rfl | aH
 · simp only at ah ⊢
   rw [yC bx,if_neg aqA] at ah
   rw [yC bx,if_pos rfl]
   exact af ah
 · exact I p aH ah
end
def cV (E:Env) (bl:List (aJ E.T.El)) (f:cE E.T.El) (cur:List (Nat × Bool)):Operand->Option (aL E.T.El)
 | .const v=>some (.p v)
 | .global g=>eI E.dW g
 | .func g=>some (.f (.func g) [])
 | .tmp t=>match eI f.a_ t with
   | some y=>some (nm bl y)
   | none=>match B1 f.gs cur t with
     | some y=>some (nm bl y)
     | none=>match B1 f.gs f.ef t with
       | some y=>some (nm bl y)
       | none=>none
def oF (E:Env) (bl:List (aJ E.T.El)) (f:cE E.T.El) (cur:List (Nat × Bool)):List Operand->Option (List (aL E.T.El))
 | []=>some []
 | x::r=>match cV E bl f cur x,oF E bl f cur r with
   | some y,some ys=>some (y::ys)
   | _,_=>none
def Fy (E:Env) (bl:List (aJ E.T.El)) (f:cE E.T.El) (cur:List (Nat × Bool)):Option Operand->Option (Option (aL E.T.El))
 | none=>some none
 | some x=>match cV E bl f cur x with
   | some y=>some (some y)
   | none=>none
def B_ (E:Env) (bl:List (aJ E.T.El)) (f:cE E.T.El) (cur:List (Nat × Bool)):List (Nat × Operand)->Option (List (Nat × aL E.T.El))
 | []=>some []
 | (i,x)::r=>match cV E bl f cur x,B_ E bl f cur r with
   | some y,some ys=>some ((i,y)::ys)
   | _,_=>none
structure R (E:Env) (W:World) (M0:List Nat) (X:Nat->Prop) (n:cN) (f:cE E.T.El) (bl:List (aJ E.T.El)) (ρ:List Value) (a:Act) (w:World):Prop where
 mem:Mem E.T W M0 X bl ρ w
 gN:mI E.T (bm X bl ρ w) w ρ bl n f a
 dW:∀ g y,eI E.dW g=some y->aw E.T (bm X bl ρ w) w ρ bl y (.pointer (some ⟨g,0,none⟩))
section
variable {E:Env} {W w w':World} {M0:List Nat} {X:Nat->Prop} {n:cN} {f:cE E.T.El} {bl bl':List (aJ E.T.El)} {ρ ρ':List Value} {a:Act} {cur:List (Nat × Bool)}
theorem R.to (h:R E W M0 X n f bl ρ a w) (aM:To X bl bl' ρ ρ' w w') (hm:Mem E.T W M0 X bl' ρ' w'):R E W M0 X n f bl' ρ' a w':=⟨hm,h.gN.later aM.F aM.L,fun g y ay=>aM.v (h.dW g y ay)⟩
theorem R.put {d:Nat} {y:aL E.T.El} {v:Value} (h:R E W M0 X n f bl ρ a w) (aN:Nat.blt d n.n=true) (af:aw E.T (bm X bl ρ w) w ρ bl y v):R E W M0 X n (f.put d y) bl ρ (a.put (some d) v) w:=⟨h.mem,h.gN.put aN af,h.dW⟩
theorem W4 {a:Act}:∀ {l:List (Nat × Bool)},(∀ p ∈ l,a.tmps.getD p.1 undef= .bool p.2)->iO a l
 | [],_=>trivial
 | p::r,h=>⟨h p (by simp),W4 fun q aS=>h q (by simp [aS])⟩
theorem dk (h:R E W M0 X n f bl ρ a w) (hc:iO a cur) {x:Operand} {y:aL E.T.El} (ad:cV E bl f cur x=some y):aw E.T (bm X bl ρ w) w ρ bl y (a.eval x):=by
 cases x with
 | const v=>simp only [cV,Option.some.injEq] at ad;subst ad;simp only [aw];rfl
 | global g=>exact h.dW g y ad
 | func g=>simp only [cV,Option.some.injEq] at ad;subst ad;simp only [aw];exact ⟨[],rfl,by simp [a4]⟩
 | tmp t=>
   simp only [cV] at ad
   split at ad
   · rename_i z aj
     simp only [Option.some.injEq] at ad
     subst ad
     exact JU h.mem (h.gN.ii.get t z aj)
   · split at ad
     · rename_i z aj
       simp only [Option.some.injEq] at ad
       subst ad
       exact JU h.mem (QS h.gN hc (fun p aH=>aH) aj)
     · split at ad
       · rename_i z aj
         simp only [Option.some.injEq] at ad
         subst ad
         exact JU h.mem (QS h.gN (W4 h.gN.ef) (fun p aH=>aH) aj)
       · cases ad
theorem Ca (h:R E W M0 X n f bl ρ a w) (hc:iO a cur):∀ {xs:List Operand} {ys:List (aL E.T.El)},oF E bl f cur xs=some ys->a4 E.T (bm X bl ρ w) w ρ bl ys (xs.map a.eval)
 | [],ys,ad=>by simp only [oF,Option.some.injEq] at ad;subst ad;simp [a4]
 | x::r,ys,ad=>by
   simp only [oF] at ad
   split at ad
   · rename_i y dU I aa
     simp only [Option.some.injEq] at ad
     subst ad
     simp only [List.map_cons,a4]
     exact ⟨_,_,rfl,dk h hc I,Ca h hc aa⟩
   · cases ad
theorem abo (h:R E W M0 X n f bl ρ a w) (hc:iO a cur) {x:Option Operand} {y:Option (aL E.T.El)} (ad:Fy E bl f cur x=some y):yn E (bm X bl ρ w) w ρ bl a x y:=by
 cases x with
 | none=>simp only [Fy,Option.some.injEq] at ad;subst ad;trivial
 | some x=>
   simp only [Fy] at ad
   split at ad
   · rename_i z aj
     simp only [Option.some.injEq] at ad
     subst ad
     exact dk h hc aj
   · cases ad
theorem Ru (h:R E W M0 X n f bl ρ a w) (hc:iO a cur):∀ {xs:List (Nat × Operand)} {ys:List (Nat × aL E.T.El)},B_ E bl f cur xs=some ys->o9 E.T (bm X bl ρ w) w ρ bl ys (xs.map fun p=>(p.1,a.eval p.2))
 | [],ys,ad=>by simp only [B_,Option.some.injEq] at ad;subst ad;simp [o9]
 | (i,x)::r,ys,ad=>by
   simp only [B_] at ad
   split at ad
   · rename_i y dU I aa
     simp only [Option.some.injEq] at ad
     subst ad
     simp only [List.map_cons,o9]
     exact ⟨_,_,rfl,dk h hc I,Ru h hc aa⟩
   · cases ad
end
def Nw (E:Env) (bl:List (aJ E.T.El)) (f:cE E.T.El) (cur:List (Nat × Bool)) (c x y:Operand):D (aL E.T.El):=
 match cV E bl f cur c with
 | some (.p (.bool b))=>match E.fJ,c with
   | true,_=>match b with
     | true=>.of (cV E bl f cur x)
     | false=>.of (cV E bl f cur y)
   | false,.tmp kL=>match eI f.ef kL with
     | some true=>.of (cV E bl f cur x)
     | some false=>.of (cV E bl f cur y)
     | none=>match cV E bl f ((kL,true)::cur) x,cV E bl f ((kL,false)::cur) y with
       | some u,some v=>RI E x y b u v
       | _,_=>.no
   | false,_=>.no
 | _=>.no
def TY:IntKind->Int->Option Int
 | .i64,m=>some (aE m)
 | .u64,m=>some (CP m)
 | .u8,m=>some ((kn m).toNat:Int)
 | _,_=>none
def Nl (P:Program) (s d:Nat):Value->Option Value
 | .int k m=>match jJ (P.underlying s),jJ (P.underlying d) with
   | some (.i j),some (.i k')=>match lf j k,TY k' m with
     | true,some r=>some (.int k' r)
     | _,_=>none
   | _,_=>none
 | _=>none
def NU (E:Env) (bl:List (aJ E.T.El)) (t:Nat) (u:aL E.T.El) (hi oy:Option (aL E.T.El)):D (aL E.T.El):=match my E.P t,Df hi && Df oy with
 | some (e,n),true=>match Nat.beq n (E.T.ty e).size with
   | true=>match u with
     | .s _ _=>.ok (.q e [])
     | .q _ _=>.ok (.q e [])
     | .r i g=>match Nat.beq g (qO bl i) with
       | true=>.ok (.q e [])
       | false=>.no
     | .p (.slice none 0 0)=>.ok (.p (.slice none 0 0))
     | .p (.slice (some _) 0 _)=>.ok (.q e [])
     | _=>.no
   | false=>.no
 | _,_=>.no
def Rp {El:Nat->Type} (bl:List (aJ El)):aL El->Bool
 | .s _ (_::_)=>true
 | .q _ (_::_)=>true
 | .p (.slice (some _) _ _)=>true
 | .r i g=>match nth bl i with
   | some (.r _ bE _ (_::_))=>Nat.beq g bE
   | _=>false
 | _=>false
def JT {El:Nat->Type}:aL El->Bool
 | .p (.slice none _ _)=>true
 | _=>false
def Nu (P:Program) {El:Nat->Type} (bl:List (aJ El)) (t:Nat) (op:BinOp) (u v:aL El):Option Bool:=match jJ (P.underlying t),JT v,zI op true with
 | some .cl,true,some b=>match JT u with
   | true=>some b
   | false=>match Rp bl u with
     | true=>some (!b)
     | false=>none
 | _,_,_=>none
def Bn (E:Env) (bl:List (aJ E.T.El)) (f:cE E.T.El) (cur:List (Nat × Bool)):Op->D (aL E.T.El)
 | .move x=>.of (cV E bl f cur x)
 | .assign x=>.of (cV E bl f cur x)
 | .pick c x y=>Nw E bl f cur c x y
 | .binOp op t x y _=>match cV E bl f cur x,cV E bl f cur y with
   | some u,some v=>match Nu E.P bl t op u v with
     | some b=>.ok (.p (.bool b))
     | none=>Ng E t op (E3 y) u v
   | _,_=>.no
 | .unOp .not _ x=>match cV E bl f cur x with
   | some (.p (.bool p))=>.ok (.p (.bool (!p)))
   | _=>.no
 | .unOp .neg _ x=>match cV E bl f cur x with
   | some (.p (.int .i64 m))=>.ok (.p (.int .i64 (aE (0 - m))))
   | _=>.no
 | .convert s d x=>match cV E bl f cur x with
   | some (.p u)=>match Nl E.P s d u with
     | some r=>.ok (.p r)
     | none=>.no
   | _=>.no
 | .load t x=>match cV E bl f cur x with
   | some p=>Bm E bl t p
   | none=>.no
 | .fieldAddr s x j=>match cV E bl f cur x,Ig E.P s j with
   | some p,some (off,_,_)=>match J9 (qO bl) p with
     | true=>.of (RN p off)
     | false=>.no
   | _,_=>.no
 | .nilCheck x=>match cV E bl f cur x with
   | some p=>match Ja p with
     | true=>.ok p
     | false=>.no
   | none=>.no
 | .extract x i=>match cV E bl f cur x with
   | some (.u l)=>.of (nth l i)
   | _=>.no
 | .makeFunc fn ⟨[]⟩ ⟨ys⟩=>match oF E bl f cur ys with
   | some us=>.ok (.f fn us)
   | none=>.no
 | .makeFunc fn ⟨xs⟩ ⟨[]⟩=>match oF E bl f cur xs with
   | some us=>.ok (.h fn us)
   | none=>.no
 | .makeInterface t x=>match cV E bl f cur x,E.P.concrete t with
   | some y,true=>.ok (.i t y)
   | _,_=>.no
 | .indexAddr t x y=>match cV E bl f cur x,cV E bl f cur y with
   | some u,some v=>Nm E bl t u v
   | _,_=>.no
 | .index t x y=>match cV E bl f cur x,cV E bl f cur y,jJ (E.P.underlying t) with
   | some (.p (.string ⟨⟨p⟩⟩)),some (.p (.int .i64 j)),some .s=>.op (idx p j) fun b=>.ok (.p (.int .u8 (b.toNat:Int)))
   | _,_,_=>.no
 | .slice t x lo hi none=>match cV E bl f cur x,Fy E bl f cur lo,Fy E bl f cur hi with
   | some u,some a,some b=>Nk E bl t u a b
   | _,_,_=>.no
 | .slice t x none (some hi) (some oy)=>match cV E bl f cur x,cV E bl f cur hi,cV E bl f cur oy with
   | some u,some a,some b=>NU E bl t u (some a) (some b)
   | _,_,_=>.no
 | .lookup t x y ok=>match cV E bl f cur x,cV E bl f cur y with
   | some u,some v=>Ns E bl t ok u v
   | _,_=>.no
 | .field t x j=>match cV E bl f cur x with
   | some u=>Nv E t j u
   | none=>.no
 | .build t ⟨ps⟩=>match B_ E bl f cur ps with
   | some ys=>Nh E t ys
   | none=>.no
 | .call ⟨.builtin .len,⟨[x]⟩,⟨[t]⟩⟩=>match cV E bl f cur x with
   | some u=>match mapOf E.P t with
     | some _=>Nr E bl t u
     | none=>Nq E bl t u
   | none=>.no
 | .call ⟨.builtin .cap,⟨[x]⟩,⟨[t]⟩⟩=>match my E.P t,cV E bl f cur x with
   | some _,some (.p (.slice _ _ c))=>.ok (.p (.int .i64 (c:Int)))
   | _,_=>.no
 | _=>.no
def ou (E:Env) (bl:List (aJ E.T.El)) (f:cE E.T.El) (cur:List (Nat × Bool)):Op->Option (Option Nat)
 | .load _ x=>match cV E bl f cur x with
   | some p=>some (QN p)
   | none=>none
 | .lookup _ x _ _=>match cV E bl f cur x with
   | some u=>some (zA u)
   | none=>none
 | .call ⟨.builtin .len,⟨[x]⟩,⟨[t]⟩⟩=>match mapOf E.P t,cV E bl f cur x with
   | some _,some u=>some (zA u)
   | _,_=>none
 | _=>none
def u6 (P:Program) (o:Oper) (a:Act) (X:Nat->Prop) {El:Nat->Type} (bl:List (aJ El)) (ρ:List Value) (w:World) (r:Value):Option (Option Nat)->Prop
 | none=>jN P o a r
 | some i=>∃ (q:Nat) (S:World->Prop),(match i with
  | none=>bm X bl ρ w q
  | some i=>∃ B h,bl[i]? =some B/\ρ[i]? =some h/\q ∈ bA B h)/\S w/\(∀ w',w'.heap[q]? =w.heap[q]? ->S w')/\ ∀ w',S w'->bh P o a w' r w'
theorem u6.now {P:Program} {o:Oper} {a:Act} {X:Nat->Prop} {El:Nat->Type} {bl:List (aJ El)} {ρ:List Value} {w:World} {r:Value}:∀ {i:Option (Option Nat)},u6 P o a X bl ρ w r i->bh P o a w r w
 | none,h=>h w
 | some _,⟨_,_,_,I,_,aa⟩=>aa w I
end bB
namespace bB
open Go Go.RowKit ax J
theorem mm {α:Type} {t:Nat} {y:α}:∀ {l:List (Nat × α)},eI l t=some y->(t,y) ∈ l
 | [],h=>by simp [eI] at h
 | p::r,h=>by
   simp only [eI] at h
   split at h
   · rename_i ah
     simp only [Option.some.injEq] at h
     subst h
     rw [<-Nat.eq_of_beq_eq_true ah]
     simp
   · exact List.mem_cons_of_mem _ (mm h)
section
variable {E:Env} {W w w':World} {M0:List Nat} {X:Nat->Prop} {n:cN} {f:cE E.T.El} {bl:List (aJ E.T.El)} {ρ:List Value} {a:Act} {cur:List (Nat × Bool)}
theorem ahM {P:Program} {o:Oper} {A:Option Addr} {m c sz t e:Nat} {x hi oy:Operand} (aM:P.underlying t=some (.slice e)) (ao:∀ w,(Go.sizeOf e).run P w= .ok sz w) (av:o.op= .slice t x none (some hi) (some oy)) (ad:a.eval x= .slice A m c) (I:a.eval hi= .int .i64 0) (aa:a.eval oy= .int .i64 0) (w:World):bh P o a w (.slice A 0 0) w:=by
 have g_:=ayx (P:=P) (w:=w) (A:=A) (m:=m) (c:=c) (j:=0) aM ao ⟨Int.le_refl _,by omega⟩
 simp only [bh,execOp,av,ad,Instr.sliceAt,Sem.run_bind,run_underlying aM,Result.andThen_ok,Option.map_none,Option.map_some,I,aa,g_]
 rfl
theorem av4 {F:Nat->Prop} {t:Nat} (A:Option Addr):aw E.T F w ρ bl (.q t []) (.slice A 0 0):=by
 simp only [aw]
 exact ⟨⟨A,0,rfl,Nat.le_refl _,Nat.zero_le _,fun _=>rfl,fun h=>absurd rfl h⟩,A,rfl⟩
theorem Ts {v:Value} (h:mg v):∃ A m c,v= .slice A m c:=by
 cases v <;> simp [mg] at h
 exact ⟨_,_,_,rfl⟩
theorem ao4 (hm:Mem E.T W M0 X bl ρ w) {o:Oper} {t:Nat} {x hi oy:Operand} {u z KX KY:aL E.T.El} (h:(NU E bl t u (some KX) (some KY)).out z) (av:o.op= .slice t x none (some hi) (some oy))
 (ad:aw E.T (bm X bl ρ w) w ρ bl u (a.eval x)) (I:aw E.T (bm X bl ρ w) w ρ bl KX (a.eval hi)) (aa:aw E.T (bm X bl ρ w) w ρ bl KY (a.eval oy)):∃ r,jN E.P o a r/\aw E.T (bm X bl ρ w) w ρ bl z r:=by
 unfold NU at h
 split at h
 · rename_i e fG ao ah
   simp only [Bool.and_eq_true] at ah
   have bj:a.eval hi= .int .i64 0 :=by
    rcases L8 (lo:=some hi) (u:=some KX) (show yn E _ w ρ bl a (some hi) (some KX) from I) ah.1 with ⟨e,_⟩ | ⟨_,e,k⟩
    · cases e
    · cases e;exact k
   have bk:a.eval oy= .int .i64 0 :=by
    rcases L8 (lo:=some oy) (u:=some KY) (show yn E _ w ρ bl a (some oy) (some KY) from aa) ah.2 with ⟨e,_⟩ | ⟨_,e,k⟩
    · cases e
    · cases e;exact k
   obtain ⟨hu,aj⟩:=p9 ao
   have fin:∀ {A:Option Addr} {m c:Nat},a.eval x= .slice A m c->(D.ok (aL.q e ([]:List (E.T.El e)))).out z-> ∃ r,jN E.P o a r/\aw E.T (bm X bl ρ w) w ρ bl z r:=fun {A m c} af h=>by
    have h:aL.q e []=z:=h
    subst h
    exact ⟨_,fun w'=>ahM hu aj av af bj bk w',av4 A⟩
   split at h
   · split at h
     · simp only [aw] at ad;obtain ⟨A,c,af⟩:=kK _ ad;exact fin af h
     · simp only [aw] at ad;obtain ⟨A,af⟩:=ad.2;exact fin af h
     · split at h
       · simp only [aw] at ad;obtain ⟨A,m,c,af⟩:=Ts ad.1;exact fin af h
       · exact h.elim
     · have h:aL.p (.slice none 0 0)=z:=h
       subst h
       simp only [aw] at ad
       exact ⟨_,fun w'=>ahM hu aj av ad bj bk w',by simp only [aw]⟩
     · simp only [aw] at ad;exact fin ad h
     · exact h.elim
   · exact h.elim
 · exact h.elim
theorem azL {k:IntKind} {m r:Int} (h:TY k m=some r):k.wrap m=r:=by
 unfold TY at h
 split at h <;> simp only [Option.some.injEq,reduceCtorEq] at h <;> subst h
 · exact ua m
 · rw [IntKind.wrap_u64];rfl
 · exact adG m
theorem aou {P:Program} {o:Oper} {s d:Nat} {x:Operand} {u r:Value} (h:Nl P s d u=some r) (av:o.op= .convert s d x) (ad:a.eval x=u):jN P o a r:=by
 unfold Nl at h
 split at h
 · rename_i k m
   split at h
   · rename_i j k' I aa
     split at h
     · rename_i h4 au bb
       simp only [Option.some.injEq] at h
       subst h
       have:=nd au
       subst this
       rw [<-azL bb]
       exact fun w=>Vh (s7 I) (s7 aa) av ad
     · cases h
   · cases h
 · cases h
theorem ar7 {y:Operand} (aj:E3 y=true) (k:IntKind) (n:Int) (aF:a.eval y= .int k n):n≠ 0 :=by
 unfold E3 at aj
 split at aj
 · rename_i k' fG
   have:a.eval (.const (.int k' fG))= .int k' fG:=rfl
   rw [this] at aF
   injection aF with _ e
   subst e
   simpa using aj
 · cases aj
theorem aoG (h:R E W M0 X n f bl ρ a w) (hc:iO a cur) {o:Oper} {c x y:Operand} {z:aL E.T.El} (aj:(Nw E bl f cur c x y).out z) (av:o.op= .pick c x y):∃ r,jN E.P o a r/\aw E.T (bm X bl ρ w) w ρ bl z r:=by
 unfold Nw at aj
 split at aj
 · rename_i b m0
   have jW:=dk h hc m0
   simp only [aw] at jW
   have adu:b=true->(D.of (cV E bl f cur x)).out z-> ∃ r,jN E.P o a r/\aw E.T (bm X bl ρ w) w ρ bl z r:=fun ah aj=>by
    have:=dk h hc (D.nl aj)
    exact ⟨_,fun w'=>L4 av (by rw [jW,ah]) rfl,this⟩
   have YB:b=false->(D.of (cV E bl f cur y)).out z-> ∃ r,jN E.P o a r/\aw E.T (bm X bl ρ w) w ρ bl z r:=fun ah aj=>by
    have:=dk h hc (D.nl aj)
    exact ⟨_,fun w'=>L3 av (by rw [jW,ah]) rfl,this⟩
   split at aj
   · cases b with
     | true=>exact adu rfl aj
     | false=>exact YB rfl aj
   · rename_i kL _
     split at aj
     · rename_i ai
       have:=h.gN.ef _ (mm ai)
       have e:a.eval (.tmp kL)= .bool true:=this
       rw [jW] at e
       exact adu (by injection e) aj
     · rename_i ai
       have:=h.gN.ef _ (mm ai)
       have e:a.eval (.tmp kL)= .bool false:=this
       rw [jW] at e
       exact YB (by injection e) aj
     · split at aj
       · rename_i u v hu af
         obtain ⟨r,I,aa⟩:=avu (a:=a) (x:=x) (y:=y) aj (fun ah=>dk h (show iO a ((kL,true)::cur) from ⟨by subst ah;exact jW,hc⟩) hu) (fun ah=>dk h (show iO a ((kL,false)::cur) from ⟨by subst ah;exact jW,hc⟩) af)
         exact ⟨r,fun w'=>aDm av jW I,aa⟩
       · exact aj.elim
   · exact aj.elim
 · exact aj.elim
theorem ahV {P:Program} {o:Oper} {t t':TypeId} {x y:Operand} {A:Option Addr} {m c eR bF:Nat} {op:BinOp} {b:Bool} (aM:jJ (P.underlying t)=some .cl) (ah:zI op A.isNone=some b) (av:o.op= .binOp op t x y t') (ad:a.eval x= .slice A m c) (hy:a.eval y= .slice none eR bF) (w:World):bh P o a w (.bool b) w:=by
 obtain ⟨e,hu⟩:=s7 aM
 have h:∀ d:Nat,(Op.equalIn (d+ 1) t (.slice A m c) (.slice none eR bF)).run P w= .ok A.isNone w:=fun d=>by
  cases A <;> simp [Op.equalIn,run_underlying hu]
 cases op <;> simp only [zI,Option.some.injEq,reduceCtorEq] at ah <;> subst ah
 · have aa:(binOp .eql t (.slice A m c) (.slice none eR bF)).run P w= .ok (.bool A.isNone) w:=by
    simp only [binOp]
    simp [Op.equal,Op.maxDepth,h 9999]
   simp only [bh,execOp,av,ad,hy]
   simp [go_sem,aa]
 · have aa:(binOp .neq t (.slice A m c) (.slice none eR bF)).run P w= .ok (.bool (!A.isNone)) w:=by
    simp only [binOp]
    simp [Op.equal,Op.maxDepth,h 9999]
   simp only [bh,execOp,av,ad,hy]
   simp [go_sem,aa]
theorem adg {α:Type} {T:dh α} {F:Nat->Prop} {v:Value} {d:α} {l:List α} (h:(b3 T).rd F w [v] (d::l)):∃ g m c,v= .slice (some g) m c:=by
 obtain ⟨A,c,e,_,_,_,aa⟩:=h
 simp only [List.cons.injEq,and_true] at e
 subst e
 rw [(aa (by simp)).1]
 exact ⟨_,_,_,rfl⟩
theorem au6 (hm:Mem E.T W M0 X bl ρ w) {u:aL E.T.El} {v:Value} (h:Rp bl u=true) (af:aw E.T (bm X bl ρ w) w ρ bl u v):∃ g m c,v= .slice (some g) m c:=by
 unfold Rp at h
 split at h
 · simp only [aw] at af;exact adg af
 · simp only [aw] at af;exact adg af.1
 · simp only [aw] at af;exact ⟨_,_,_,af⟩
 · split at h
   · rename_i t' bE k d l hi
     rw [cY] at hi
     simp only [aw] at af
     obtain ⟨_,aN,bp,bI,b2⟩:=af
     rw [hi] at b2
     obtain ⟨A,c,xs,ak,al,aT⟩:=hm.ok _ _ _ hi bp
     rw [b2 (Nat.eq_of_beq_eq_true h),ak]
     rw [ak] at al
     obtain ⟨g,rfl⟩:=Cw al (by simp)
     exact ⟨_,_,_,rfl⟩
   · cases h
 · cases h
theorem aa9 {F:Nat->Prop} {u:aL E.T.El} {v:Value} (h:JT u=true) (af:aw E.T F w ρ bl u v):∃ m c,v= .slice none m c:=by
 unfold JT at h
 split at h
 · simp only [aw] at af;exact ⟨_,_,af⟩
 · cases h
theorem aoE (hm:Mem E.T W M0 X bl ρ w) {t:Nat} {op:BinOp} {u v:aL E.T.El} {o:Oper} {x y:Operand} {t':TypeId} {b:Bool} (h:Nu E.P bl t op u v=some b) (av:o.op= .binOp op t x y t') (ad:aw E.T (bm X bl ρ w) w ρ bl u (a.eval x)) (hy:aw E.T (bm X bl ρ w) w ρ bl v (a.eval y)):jN E.P o a (.bool b):=by
 unfold Nu at h
 split at h
 · rename_i b0 I aa au
   obtain ⟨eR,bF,Ic⟩:=aa9 aa hy
   split at h
   · rename_i hu
     simp only [Option.some.injEq] at h
     subst h
     obtain ⟨m,c,ex⟩:=aa9 hu ad
     exact fun w'=>ahV (A:=none) I au av ex Ic w'
   · split at h
     · rename_i hu
       simp only [Option.some.injEq] at h
       subst h
       obtain ⟨g,m,c,ex⟩:=au6 hm hu ad
       refine fun w'=>ahV (A:=some g) I ?_ av ex Ic w'
       cases op <;> simp only [zI,Option.some.injEq,reduceCtorEq] at au ⊢ <;> subst au <;> rfl
     · cases h
 · cases h
theorem Yp (a5:du E) (h:R E W M0 X n f bl ρ a w) (hc:iO a cur) {o:Oper} {op:Op} (av:o.op=op) {z:aL E.T.El} (aj:(Bn E bl f cur op).out z):∃ r,aw E.T (bm X bl ρ w) w ρ bl z r/\u6 E.P o a X bl ρ w r (ou E bl f cur op):=by
 have h5:(∃ r,jN E.P o a r/\aw E.T (bm X bl ρ w) w ρ bl z r)-> ∃ r,aw E.T (bm X bl ρ w) w ρ bl z r/\u6 E.P o a X bl ρ w r none:=fun ⟨r,I,aa⟩=>⟨r,aa,I⟩
 unfold Bn at aj
 split at aj
 · exact h5 ⟨_,fun w'=>ahQ av rfl,dk h hc (D.nl aj)⟩
 · exact h5 ⟨_,fun w'=>ahJ av rfl,dk h hc (D.nl aj)⟩
 · exact h5 (aoG h hc aj av)
 · split at aj
   · rename_i u v I aa
     split at aj
     · rename_i b ah
       have aj:aL.p (.bool b)=z:=aj
       subst aj
       exact h5 ⟨_,aoE h.mem ah av (dk h hc I) (dk h hc aa),by simp only [aw]⟩
     · exact h5 (aop a5 aj av (fun ai=>ar7 ai) (dk h hc I) (dk h hc aa))
   · exact aj.elim
 · split at aj
   · rename_i p I
     have aj:aL.p (.bool (!p))=z:=aj
     subst aj
     have:=dk h hc I
     simp only [aw] at this
     exact h5 ⟨_,fun w'=>ahS av this,by simp only [aw]⟩
   · exact aj.elim
 · split at aj
   · rename_i m I
     have aj:aL.p (.int .i64 (aE (0 - m)))=z:=aj
     subst aj
     have:=dk h hc I
     simp only [aw] at this
     exact h5 ⟨_,fun w'=>aDk av this,by simp only [aw]⟩
   · exact aj.elim
 · split at aj
   · rename_i u I
     split at aj
     · rename_i r aa
       have aj:aL.p r=z:=aj
       subst aj
       have:=dk h hc I
       simp only [aw] at this
       exact h5 ⟨_,aou aa av this,by simp only [aw]⟩
     · exact aj.elim
   · exact aj.elim
 · rename_i t x
   split at aj
   · rename_i p I
     obtain ⟨ej,us,v,bj,bk,cg,c',nc⟩:=aoB a5.tb h.mem (dk h hc I) aj
     refine ⟨v,bk,?_⟩
     simp only [ou,I,u6]
     refine ⟨ej.block,fun w'=>e0 w' ej us,?_,cg,fun w' hw=>cg.law hw,fun w' hw=>c' o a x w' av bj hw⟩
     revert nc
     cases QN p <;> exact fun h=>h
   · exact aj.elim
 · split at aj
   · rename_i p off n_ sz I aa
     split at aj
     · rename_i aH
       obtain ⟨g,q,ak,al⟩:=avG aH (D.nl aj) (dk h hc I)
       obtain ⟨cx,fd,bj,bk,cg,c',nc,vP⟩:=YC aa
       subst cg
       exact h5 ⟨_,fun w'=>ahL bj bk nc vP av ak,al⟩
     · exact aj.elim
   · exact aj.elim
 · split at aj
   · rename_i p I
     split at aj
     · rename_i aH
       have aj:p=z:=aj
       subst aj
       have:=dk h hc I
       obtain ⟨q,e⟩:=aad aH this
       exact h5 ⟨_,fun w'=>ahR av e,by rw [<-e];exact this⟩
     · exact aj.elim
   · exact aj.elim
 · split at aj
   · rename_i l I
     have:=dk h hc I
     simp only [aw] at this
     obtain ⟨vs,ak,al⟩:=this
     have hi:=D.nl aj
     rw [cY] at hi
     obtain ⟨v,aT,bU⟩:=al.at_ hi
     exact h5 ⟨v,fun w'=>ahK (vs:=vs) av ak aT,bU⟩
   · exact aj.elim
 · split at aj
   · rename_i us I
     have aj:aL.f _ us=z:=aj
     subst aj
     have:=Ca h hc I
     refine h5 ⟨_,fun w'=>?_,by simp only [aw];exact ⟨_,rfl,this⟩⟩
     simp only [bh,execOp,av,Instr.makeFunc]
     simp only [List.map_toArray,List.map_nil]
     rfl
   · exact aj.elim
 · split at aj
   · rename_i us I
     have aj:aL.h _ us=z:=aj
     subst aj
     have:=Ca h hc I
     refine h5 ⟨_,fun w'=>?_,by simp only [aw];exact ⟨_,rfl,this⟩⟩
     simp only [bh,execOp,av,Instr.makeFunc]
     simp only [List.map_toArray,List.map_nil]
     rfl
   · exact aj.elim
 · split at aj
   · rename_i y I aa
     have aj:aL.i _ y=z:=aj
     subst aj
     exact h5 ⟨_,fun w'=>aC' aa av rfl,by simp only [aw];exact ⟨_,rfl,dk h hc I⟩⟩
   · exact aj.elim
 · split at aj
   · rename_i u v I aa
     exact h5 (aow h.mem aj av (dk h hc I) (dk h hc aa))
   · exact aj.elim
 · split at aj
   · rename_i p j I aa au
     obtain ⟨b,bj,bk⟩:=aj
     have bk:aL.p (.int .u8 (b.toNat:Int))=z:=bk
     subst bk
     have ak:=dk h hc I
     have al:=dk h hc aa
     simp only [aw] at ak al
     exact h5 ⟨_,fun w'=>aDb (s7 au) av ak al bj,by simp only [aw]⟩
   · exact aj.elim
 · split at aj
   · rename_i u lo hi I aa au
     exact h5 (aot h.mem aj av (dk h hc I) (abo h hc aa) (abo h hc au))
   · exact aj.elim
 · split at aj
   · rename_i u lo hi I aa au
     exact h5 (ao4 h.mem aj av (dk h hc I) (dk h hc aa) (dk h hc au))
   · exact aj.elim
 · split at aj
   · rename_i u v I aa
     obtain ⟨r,q,ak,al,aT⟩:=aoC a5 h.mem aj av (dk h hc I) (dk h hc aa)
     refine ⟨r,ak,?_⟩
     simp only [ou,I,u6]
     refine ⟨q,fun w'=>w'.heap[q]? =w.heap[q]?,?_,rfl,fun w' hw=>hw,aT⟩
     revert al
     cases zA u <;> exact fun h=>h
   · exact aj.elim
 · split at aj
   · rename_i u I
     exact h5 (aoF aj av (dk h hc I))
   · exact aj.elim
 · split at aj
   · rename_i ys I
     obtain ⟨v,ak,al⟩:=aoq (Ru h hc I) aj
     exact h5 ⟨v,fun w'=>al o a _ w' av rfl,ak⟩
   · exact aj.elim
 · split at aj
   · rename_i x t _ u I
     split at aj
     · rename_i Jg ai
       obtain ⟨r,q,ak,al,aT⟩:=aoz h.mem aj av (dk h hc I)
       refine ⟨r,ak,?_⟩
       simp only [ou,ai,I,u6]
       refine ⟨q,fun w'=>w'.heap[q]? =w.heap[q]?,?_,rfl,fun w' hw=>hw,aT⟩
       revert al
       cases zA u <;> exact fun h=>h
     · rename_i ai
       have:=h5 (aoA h.mem aj av (dk h hc I))
       simpa only [ou,ai] using this
   · exact aj.elim
 · split at aj
   · rename_i e A m c ao I
     have aj:aL.p (.int .i64 (c:Int))=z:=aj
     subst aj
     have af:=dk h hc I
     simp only [aw] at af
     exact h5 ⟨_,fun w'=>aC3 (p9 (e:=e.1) (n:=e.2) ao).1 av af,by simp only [aw]⟩
   · exact aj.elim
 · exact aj.elim
end
end bB
namespace bB
open Go Go.RowKit ax J
structure ep (El:Nat->Type) where
 y:Option (aL El)
 bl:List (aJ El)
 ws:List Nat
section
variable {T:b6} {W w w':World} {M0:List Nat} {X:Nat->Prop} {bl:List (aJ T.El)} {ρ:List Value}
theorem Mem.abk (hm:Mem T W M0 X bl ρ w) {k:Nat} (h:nS bl ρ k): ¬ X k:=fun ad=>by
 have I:=hm.hC k ad
 rcases (hm.lt k h).2 with e | e
 · exact I.2 e
 · omega
theorem CA {α:Type} {l:List α} {i:Nat} {x:α} (h:l[i]? =some x):l.set i x=l:=by
 obtain ⟨I,aa⟩:=List.getElem?_eq_some_iff.1 h
 rw [<-aa,List.set_getElem_self]
theorem Mem.freeze (hm:Mem T W M0 X bl ρ w) {i t g k:Nat} {l:List (T.El t)} (hi:bl[i]? =some (.r t g k l)):Mem T W M0 X (bl.set i (.z t g k l)) ρ w/\To X bl (bl.set i (.z t g k l)) ρ ρ w w:=by
 obtain ⟨h,bz⟩:=hm.BW hi
 have aM:=hm.CH (B':=aJ.z t g k l) (h':=h) (w':=w) hi bz (br.refl _ _) (fun q aS=>by simp [bA] at aS) ⟨fun _=>rfl,Nat.le_refl _,fun _=>⟨rfl,rfl,Nat.le_refl _,fun _=>rfl⟩⟩
 have ea:=hm.eb (B':=aJ.z t g k l) (h':=h) (w':=w) hi bz (br.refl _ _) (fun q aS=>by simp [bA] at aS) aM (by
  obtain ⟨A,c,xs,rfl,aa,au⟩:=hm.ok i _ _ hi bz
  obtain ⟨c1,c2,c3,c4⟩:=aa.cap
  refine ⟨A,c,rfl,c1,c2,c3,fun b5=>?_⟩
  have gO:0 <l.length:=List.length_pos_iff.2 b5
  obtain ⟨dY,rfl,sG,hc,jX⟩:=rH gO aa
  refine ⟨rfl,?_,xs,mu _ aM.F au,by simpa [dm,gg] using hc⟩
  have jZ:nS bl ρ dY:=⟨i,_,_,hi,bz,by simp only [bA];rw [jX];simp⟩
  refine ⟨by simpa [dm] using hm.abk jZ,?_,by simpa [dm] using (hm.lt dY jZ).1⟩
  rintro ⟨j,B,g',az,ay,ai⟩
  by_cases e:j=i
  · subst e
    rw [List.getElem?_set_self (List.getElem?_eq_some_iff.1 hi).1] at az
    cases az
    simp [bA] at ai
  · rw [List.getElem?_set_ne (Ne.symm e)] at az
    rw [List.getElem?_set_ne (Ne.symm e)] at ay
    exact hm.bu i j _ _ _ _ hi bz az ay (Ne.symm e) dY (by simp only [bA];rw [jX];simp) (by simpa [dm] using ai))
 rw [CA bz] at ea aM
 exact ⟨ea,aM⟩
end
def fL {El:Nat->Type} (bl:List (aJ El)):aL El->List (aJ El) × aL El
 | .r i g=>match nth bl i with
   | some (.r t bE k l)=>match Nat.beq g bE with
     | true=>(bl.set i (.z t bE k l),.s t l)
     | false=>(bl,.r i g)
   | some (.z t bE _ l)=>match Nat.beq g bE with
     | true=>(bl,.s t l)
     | false=>(bl,.r i g)
   | _=>(bl,.r i g)
 | .q t l=>(bl,.s t l)
 | y=>(bl,y)
def l2 {El:Nat->Type}:List (aJ El)->List (aL El)->List (aJ El) × List (aL El)
 | bl,[]=>(bl,[])
 | bl,y::r=>match fL bl y with
   | (bl',fD)=>match l2 bl' r with
     | (sn,h4)=>(sn,fD::h4)
section
variable {T:b6} {W w w':World} {M0:List Nat} {X:Nat->Prop} {bl:List (aJ T.El)} {ρ:List Value}
theorem YJ (hm:Mem T W M0 X bl ρ w) {y fD:aL T.El} {bl':List (aJ T.El)} {v:Value} (h:fL bl y=(bl',fD)) (af:aw T (bm X bl ρ w) w ρ bl y v):Mem T W M0 X bl' ρ w/\To X bl bl' ρ ρ w w/\aw T (bm X bl' ρ w) w ρ bl' fD v:=by
 have same:∀ {u:aL T.El},(bl,u)=(bl',fD)->aw T (bm X bl ρ w) w ρ bl u v->Mem T W M0 X bl' ρ w/\To X bl bl' ρ ρ w w/\aw T (bm X bl' ρ w) w ρ bl' fD v:=fun {u} h hu=>by
  simp only [Prod.mk.injEq] at h
  obtain ⟨rfl,rfl⟩:=h
  exact ⟨hm,.refl,hu⟩
 unfold fL at h
 split at h
 · rename_i i g
   split at h
   · rename_i t bE k l hi
     rw [cY] at hi
     split at h
     · rename_i ah
       have ah:=Nat.eq_of_beq_eq_true ah
       subst ah
       simp only [Prod.mk.injEq] at h
       obtain ⟨rfl,rfl⟩:=h
       obtain ⟨I,aa⟩:=hm.freeze hi
       refine ⟨I,aa,?_⟩
       have ff:=aa.v af
       simp only [aw] at ff ⊢
       obtain ⟨_,aN,bp,bI,b2⟩:=ff
       have cP:(bl.set i (aJ.z t g k l))[i]? =some (aJ.z t g k l):=List.getElem?_set_self (List.getElem?_eq_some_iff.1 hi).1
       rw [cP] at b2
       rw [b2 rfl]
       exact I.ok i _ _ cP bp
     · exact same h af
   · rename_i t bE k l hi
     rw [cY] at hi
     split at h
     · rename_i ah
       refine same h ?_
       have:=JU hm af
       simp only [nm,cY,hi,ah] at this
       exact this
     · exact same h af
   · exact same h af
 · refine same h ?_
   simp only [aw] at af ⊢
   exact af.1
 · exact same h af
theorem Io:∀ {ys dU:List (aL T.El)} {bl bl':List (aJ T.El)} {vs:List Value},Mem T W M0 X bl ρ w->l2 bl ys=(bl',dU)->a4 T (bm X bl ρ w) w ρ bl ys vs->Mem T W M0 X bl' ρ w/\To X bl bl' ρ ρ w w/\a4 T (bm X bl' ρ w) w ρ bl' dU vs
 | [],dU,bl,bl',vs,hm,h,af=>by
   simp only [l2,Prod.mk.injEq] at h
   obtain ⟨rfl,rfl⟩:=h
   exact ⟨hm,.refl,af⟩
 | y::r,dU,bl,bl',vs,hm,h,af=>by
   simp only [a4] at af
   obtain ⟨u,us,rfl,hu,aB⟩:=af
   simp only [l2] at h
   cases I:fL bl y with
   | mk bZ dq=>
     rw [I] at h
     cases aa:l2 bZ r with
     | mk ed c7=>
       rw [aa] at h
       simp only [Prod.mk.injEq] at h
       obtain ⟨rfl,rfl⟩:=h
       obtain ⟨di,t1,v1⟩:=YJ hm I hu
       obtain ⟨eg,t2,v2⟩:=Io di aa (t1.vs aB)
       refine ⟨eg,t1.trans t2,?_⟩
       simp only [a4]
       exact ⟨u,us,rfl,t2.v v1,v2⟩
end
section
variable {E:Env} {W w w':World} {M0:List Nat} {X:Nat->Prop} {n:cN} {f:cE E.T.El} {bl:List (aJ E.T.El)} {ρ:List Value} {a:Act} {cur:List (Nat × Bool)}
def gE (E:Env) (o:Oper) (a:Act) (W:World) (M0:List Nat) (X:Nat->Prop) (bl:List (aJ E.T.El)) (ρ:List Value) (w:World) (e:ep E.T.El):Prop:=
 ∃ w' ρ',Mem E.T W M0 X e.bl ρ' w'/\To X bl e.bl ρ ρ' w w'/\(∀ k,k <w.heap.size->(∀ i ∈ e.ws,∀ B h,bl[i]? =some B->ρ[i]? =some h->k ∉ bA B h)->w'.heap[k]? =w.heap[k]?) /\
   match e.y with
   | some y=>∃ v,bh E.P o a w v w'/\aw E.T (bm X e.bl ρ' w') w' ρ' e.bl y v
   | none=>pa E.P o a w w'
theorem aa6 (hm:Mem E.T W M0 X bl ρ w) {o:Oper} {t:Nat} {cs:List (aL E.T.El)} {vs:List Value} (aB:a4 E.T (bm X bl ρ w) w ρ bl cs vs) (hy:bh E.P o a w (.pointer (some ⟨w.heap.size,0,none⟩)) (w.alloc (.cells ⟨vs⟩ t))) :
 gE E o a W M0 X bl ρ w ⟨some (.b bl.length 0),bl++[.c t cs],[]⟩:=by
 have af:br [] w (w.alloc (.cells ⟨vs⟩ t)):=br.alloc _ _ _
 have ag:∀ k ∈ bA (aJ.c t cs) (.pointer (some ⟨w.heap.size,0,none⟩)),w.heap.size<=k/\k <(w.alloc (.cells ⟨vs⟩ t)).heap.size:=fun k ai=>by
  simp only [bA,ah,List.mem_singleton] at ai
  subst ai
  simp
 have aM:=hm.w2 (B:=aJ.c t cs) (h:=.pointer (some ⟨w.heap.size,0,none⟩)) af ag
 refine ⟨_,ρ++[.pointer (some ⟨w.heap.size,0,none⟩)],hm.push af ag ⟨_,vs,rfl,heap_alloc_new w _,aM.vs aB⟩,aM,fun k ai _=>af.block k ai (by simp),_,hy,?_⟩
 simp only [aw]
 exact ⟨_,by rw [<-hm.len];simp,rfl⟩
theorem auF (hm:Mem E.T W M0 X bl ρ w) {o:Oper} {bT vt:Nat} {K:iM (E.T.El bT)} (cT:(E.T.e bT).key=some K) (hy:bh E.P o a w (.map (some w.heap.size)) (w.alloc (.map #[] 0))) :
 gE E o a W M0 X bl ρ w ⟨some (.m bl.length),bl++[.m bT vt []],[]⟩:=by
 have af:br [] w (w.alloc (.map #[] 0)):=br.alloc _ _ _
 have ag:∀ k ∈ bA (aJ.m bT vt ([]:List (E.T.El bT × E.T.El vt))) (.map (some w.heap.size)),w.heap.size<=k/\k <(w.alloc (.map #[] 0)).heap.size:=fun k ai=>by
  simp only [bA,ah,List.mem_singleton] at ai
  subst ai
  simp
 have aM:=hm.w2 (B:=aJ.m bT vt ([]:List (E.T.El bT × E.T.El vt))) (h:=.map (some w.heap.size)) af ag
 refine ⟨_,ρ++[.map (some w.heap.size)],hm.push af ag ⟨_,rfl,K,cT,#[],0,heap_alloc_new w _,trivial,by simp,by simp⟩,aM,fun k ai _=>af.block k ai (by simp),_,hy,?_⟩
 simp only [aw]
 exact ⟨_,by rw [<-hm.len];simp,rfl⟩
def J0 {El:Nat->Type}:aL El->Bool
 | .a _=>false
 | .u _=>false
 | .p v=>v.oneCell'
 | _=>true
theorem avk {F:Nat->Prop} {y:aL E.T.El} {v:Value} (h:J0 y=true) (af:aw E.T F w ρ bl y v):v.oneCell'=true:=by
 cases y with
 | p u=>simp only [aw] at af;subst af;exact h
 | a l=>simp [J0] at h
 | b i o=>simp only [aw] at af;obtain ⟨g,_,rfl⟩:=af;rfl
 | x t d o=>simp only [aw] at af;obtain ⟨_,_,_,rfl,_⟩:=af;rfl
 | s t l=>simp only [aw] at af;obtain ⟨A,c,e⟩:=kK _ af;subst e;rfl
 | q t l=>simp only [aw] at af;obtain ⟨_,A,rfl⟩:=af;rfl
 | r i g=>simp only [aw] at af;obtain ⟨A,m,c,rfl⟩:=Ts af.1;rfl
 | v i g lo hi=>simp only [aw] at af;obtain ⟨A,m,c,rfl⟩:=Ts af.1;rfl
 | e i g k t j d o=>simp only [aw] at af;have:=af.1;cases v <;> simp [s5] at this;rfl
 | w i g o=>simp only [aw] at af;have:=af.1;cases v <;> simp [s5] at this;rfl
 | m i=>simp only [aw] at af;obtain ⟨g,_,rfl⟩:=af;rfl
 | n _ _ _=>simp only [aw] at af;obtain ⟨g,rfl,_⟩:=af;rfl
 | f fn cs=>simp only [aw] at af;obtain ⟨g,rfl,_⟩:=af;rfl
 | h fn us=>simp only [aw] at af;obtain ⟨g,rfl,_⟩:=af;rfl
 | u l=>simp [J0] at h
 | i t z=>simp only [aw] at af;obtain ⟨g,rfl,_⟩:=af;rfl
 | pp i g sz ek=>simp only [aw] at af;obtain ⟨_,_,rfl,_⟩:=af;rfl
 | wJ i g sz q=>simp only [aw] at af;obtain ⟨_,_,_,rfl,_⟩:=af;rfl
def tM {El:Nat->Type}:List (aL El)->Bool
 | []=>true
 | y::r=>J0 y && tM r
theorem FA {F:Nat->Prop}:∀ {ys:List (aL E.T.El)} {vs:List Value},tM ys=true->a4 E.T F w ρ bl ys vs->vs.all (·.oneCell')=true
 | [],vs,_,af=>by simp only [a4] at af;subst af;rfl
 | y::r,vs,h,af=>by
   simp only [a4] at af
   obtain ⟨u,us,rfl,I,aa⟩:=af
   simp only [tM,Bool.and_eq_true] at h
   simp only [List.all_cons,Bool.and_eq_true]
   exact ⟨avk h.1 I,FA h.2 aa⟩
theorem Jl:∀ (l:List Value) (n:Nat) (cs:List Value),ax.lay l n cs=fo l n cs
 | l,0,cs=>by cases l <;> rfl
 | [],n+ 1,cs=>rfl
 | u::l,n+ 1,cs=>by simp only [ax.lay,fo,Jl l n cs]
def KO {El:Nat->Type} (bl:List (aJ El)) (i:Nat):Bool:=match nth bl i with
 | some (.r _ _ _ _)=>true
 | _=>false
def Nx (E:Env) (bl:List (aJ E.T.El)) (t:Nat) (p y:aL E.T.El):D (ep E.T.El):=match lay E.P t,tM (cellsOf y) with
 | some (_,sz),true=>match Nat.beq (cellsOf y).length sz with
   | true=>match p with
     | .b i o=>match nth bl i with
       | some (.c ty cs)=>match Nat.ble (o+(cellsOf y).length) cs.length with
         | true=>.ok ⟨none,bl.set i (.c ty (fo cs o (cellsOf y))),[i]⟩
         | false=>.no
       | _=>.no
     | .e i g k t' j d o=>match nth bl i with
       | some (.r t2 bE bk l)=>match Nat.beq g bE,Nat.beq k bk with
         | true,true=>match l2 bl (fo ((E.T.e t').cs d) o (cellsOf y)),Nat.decEq t' t2,Nat.ble (o+(cellsOf y).length) ((E.T.e t').cs d).length with
           | (bl',cs),.isTrue h,true=>match (E.T.e t').gQ cs,KO bl' i with
             | some d',true=>.ok ⟨none,bl'.set i (.r t2 bE (bk+ 1) (l.set j.toNat (h ▸ d'))),[i]⟩
             | _,_=>.no
           | _,_,_=>.no
         | true,false=>.op (idx l j) fun d=>match l2 bl (fo ((E.T.e t2).cs d) o (cellsOf y)),Nat.ble (o+(cellsOf y).length) ((E.T.e t2).cs d).length with
           | (bl',cs),true=>match (E.T.e t2).gQ cs,KO bl' i with
             | some d',true=>.ok ⟨none,bl'.set i (.r t2 bE (bk+ 1) (l.set j.toNat d')),[i]⟩
             | _,_=>.no
           | _,_=>.no
         | _,_=>.no
       | _=>.no
     | .w i g o=>match nth bl i with
       | some (.k t2 s2 bE cs)=>match Nat.beq g bE && Nat.ble (o+(cellsOf y).length) cs.length with
         | true=>.ok ⟨none,bl.set i (.k t2 s2 bE (fo cs o (cellsOf y))),[i]⟩
         | false=>.no
       | _=>.no
     | _=>.no
   | false=>.no
 | _,_=>.no
theorem acO {o:Oper} {t g c m sz n q tb:Nat} {x y:Operand} {v:Value} {xs vs:List Value} (af:v.cells=vs.toArray) (ao:∀ w,(Go.sizeOf t).run E.P w= .ok sz w) (ap:Nat.beq vs.length sz=true) (I:vs.all (·.oneCell')=true)
 (aF:0 <n) (aB:rowIs w tb m (.slice (some ⟨g,0,none⟩) n c) n xs) (hle:q+vs.length<=xs.length) (av:o.op= .store t x y) (ad:a.eval x= .pointer (some ⟨g,q,none⟩)) (hy:a.eval y=v) :
 ∃ w',pa E.P o a w w'/\br [g] w w'/\rowIs w' tb m (.slice (some ⟨g,0,none⟩) n c) n (fo xs q vs):=by
 have hlen:=aB.len
 have aB:=aB.own aF
 rcases aB.2 with ⟨_,aP⟩ | ⟨g',cap,cur,ak,al,aT,bU,dn,gM,kp⟩
 · omega
 · simp only [Value.slice.injEq,Option.some.injEq,Addr.mk.injEq,and_true,true_and] at ak
   obtain ⟨rfl,rfl⟩:=ak
   have hL:xs.length<=cur.toList.length:=by rw [<-kp,List.length_take];omega
   obtain ⟨w',bj,bk,cg⟩:=Vj (tb:=tb) (cs:=cur.toList) af ao ap I (by simpa using Nat.le_trans hle (by simpa using hL)) (show (a7.dV g tb cur.toList).ok w by simpa [a7.dV] using aT) av ad hy
   refine ⟨w',bj,bk,.inl ⟨by rw [QL hle,hlen],.inr ⟨g,c,⟨ax.lay cur.toList q vs⟩,rfl,al,cg,bU,dn,?_,?_⟩⟩⟩
   · rw [Jl]
     simp only [List.size_toArray]
     rw [QL (by omega)]
     simpa using gM
   · rw [Jl]
     simp only
     subst kp
     rw [tr _ _ _ (by omega),tr _ _ _ hle]
     have c0:n*m<=cur.toList.length:=by have:=gM;have g8:n*m<=c*m:=Nat.mul_le_mul_right m bU;simp;omega
     exact Ty (by rw [hlen] at hle;exact hle) c0
theorem aaP {j n sz o k:Nat} (h:j <n) (aa:o+k<=sz):j*sz+o+k<=n*sz:=by
 have:(j+ 1)*sz<=n*sz:=Nat.mul_le_mul_right sz h
 rw [Nat.add_mul] at this
 omega
end
end bB
namespace bB
open Go Go.RowKit ax J
section
variable {E:Env} {W w w':World} {M0:List Nat} {X:Nat->Prop} {n:cN} {f:cE E.T.El} {bl:List (aJ E.T.El)} {ρ:List Value} {a:Act} {cur:List (Nat × Bool)}
theorem I7 (hm:Mem E.T W M0 X bl ρ w) {o:Oper} {i:Nat} {B B':aJ E.T.El} {h:Value} (hi:bl[i]? =some B) (bz:ρ[i]? =some h) (af:br (bA B h) w w') (ag:bA B' h=bA B h)
 (ap:b4 (some B')=b4 (some B)/\ix E.T (some B')=ix E.T (some B)/\gA (some B)<=gA (some B')/\(gA (some B')=gA (some B)->p6 (some B')=p6 (some B))) (hy:pa E.P o a w w')
 (bS:To X bl (bl.set i B') ρ ρ w w'->ig E.T (bm X (bl.set i B') ρ w') w' ρ (bl.set i B') B' h):gE E o a W M0 X bl ρ w ⟨none,bl.set i B',[i]⟩:=by
 have dR:∀ k ∈ bA B' h,k ∈ bA B h\/(w.heap.size<=k/\k <w'.heap.size):=fun k ai=>.inl (ag ▸ ai)
 have aM:=hm.CH (B':=B') (h':=h) hi bz af dR ⟨fun _=>rfl,by rw [ap.1];exact Nat.le_refl _,fun _=>⟨rfl,ap.2⟩⟩
 have ao:=CA bz
 have ea:=hm.eb (B':=B') (h':=h) hi bz af dR aM (by rw [ao] at aM ⊢;exact bS aM)
 rw [ao] at ea aM
 exact ⟨w',ρ,ea,aM,fun k ai cQ=>af.block k ai (cQ i (by simp) B h hi bz),hy⟩
theorem gE.first {o:Oper} {bl':List (aJ E.T.El)} {e:ep E.T.El} (aM:To X bl bl' ρ ρ w w) (ai:∀ i ∈ e.ws,∀ B' h k,bl'[i]? =some B'->ρ[i]? =some h->k ∈ bA B' h-> ∃ B,bl[i]? =some B/\k ∈ bA B h) (h:gE E o a W M0 X bl' ρ w e):gE E o a W M0 X bl ρ w e:=by
 obtain ⟨w',ρ',I,aa,au,bb⟩:=h
 refine ⟨w',ρ',I,aM.trans aa,fun k bx aF=>au k bx fun i hi B' g ah ay ad=>?_,bb⟩
 obtain ⟨B,bj,bk⟩:=ai i hi B' g k ah ay ad
 exact aF i hi B g bj ay bk
theorem ao2 {bl bl':List (aJ E.T.El)} {y fD:aL E.T.El} (h:fL bl y=(bl',fD)) (i:Nat):bl'[i]? =bl[i]? \/ ∃ t g k l,bl[i]? =some (.r t g k l)/\bl'[i]? =some (.z t g k l):=by
 unfold fL at h
 split at h
 · rename_i j g
   split at h
   · rename_i t bE k l az
     rw [cY] at az
     split at h
     · simp only [Prod.mk.injEq] at h
       obtain ⟨rfl,_⟩:=h
       by_cases e:i=j
       · subst e
         exact .inr ⟨t,bE,k,l,az,List.getElem?_set_self (List.getElem?_eq_some_iff.1 az).1⟩
       · exact .inl (List.getElem?_set_ne (Ne.symm e))
     · simp only [Prod.mk.injEq] at h;exact .inl (by rw [h.1])
   · split at h <;> (simp only [Prod.mk.injEq] at h;exact .inl (by rw [h.1]))
   · simp only [Prod.mk.injEq] at h;exact .inl (by rw [h.1])
 · simp only [Prod.mk.injEq] at h;exact .inl (by rw [h.1])
 · simp only [Prod.mk.injEq] at h;exact .inl (by rw [h.1])
theorem Im:∀ {ys dU:List (aL E.T.El)} {bl bl':List (aJ E.T.El)},l2 bl ys=(bl',dU)-> ∀ i:Nat,bl'[i]? =bl[i]? \/ ∃ t g k l,bl[i]? =some (.r t g k l)/\bl'[i]? =some (.z t g k l)
 | [],dU,bl,bl',h,i=>by
   simp only [l2,Prod.mk.injEq] at h
   exact .inl (by rw [h.1])
 | y::r,dU,bl,bl',h,i=>by
   simp only [l2] at h
   cases I:fL bl y with
   | mk bZ dq=>
     rw [I] at h
     cases aa:l2 bZ r with
     | mk ed c7=>
       rw [aa] at h
       simp only [Prod.mk.injEq] at h
       obtain ⟨rfl,_⟩:=h
       rcases ao2 I i with ak | ⟨t,g,k,l,ak,al⟩
       · rcases Im aa i with aT | ⟨t,g,k,l,aT,bU⟩
         · exact .inl (aT.trans ak)
         · exact .inr ⟨t,g,k,l,by rw [<-ak];exact aT,bU⟩
       · rcases Im aa i with aT | ⟨t',g',k',l',aT,bU⟩
         · exact .inr ⟨t,g,k,l,ak,by rw [aT,al]⟩
         · rw [al] at aT;cases aT
theorem aaF {α:Type}:∀ (l:List α) (q:Nat) (cs b:List α),q+cs.length<=l.length->fo (l++b) q cs=fo l q cs++b
 | l,0,cs,b,h=>by
   have e:∀ m:List α,fo m 0 cs=cs++m.drop cs.length:=fun m=>by cases m <;> rfl
   rw [e,e,List.drop_append_of_le_length (by simpa using h),List.append_assoc]
 | [],q+ 1,cs,b,h=>by simp at h
 | u::l,q+ 1,cs,b,h=>by
   simp only [List.cons_append,fo,aaF l q cs b (by simp at h;omega)]
theorem aaG {α:Type}:∀ (a l:List α) (q:Nat) (cs:List α),fo (a++l) (a.length+q) cs=a++fo l q cs
 | [],l,q,cs=>by simp
 | u::a,l,q,cs=>by
   have e:(u::a).length+q=(a.length+q)+ 1 :=by simp only [List.length_cons];omega
   rw [e]
   simp only [List.cons_append,fo,aaG a l q cs]
theorem atM {α:Type} {xs cs0 vs:List α} {p q:Nat} (h:(xs.drop p).take cs0.length=cs0) (aH:p+cs0.length<=xs.length) (aS:q+vs.length<=cs0.length):xs.take p++fo cs0 q vs++xs.drop (p+cs0.length)=fo xs (p+q) vs:=by
 have ad:xs=xs.take p++(cs0++xs.drop (p+cs0.length)):=by
  have I:xs.drop p=cs0++xs.drop (p+cs0.length):=by
   rw [<-List.drop_drop]
   have:=(List.take_append_drop cs0.length (xs.drop p)).symm
   rwa [h] at this
  rw [<-I,List.take_append_drop]
 have ap:(xs.take p).length=p:=by rw [List.length_take];omega
 have e:=aaG (xs.take p) (cs0++xs.drop (p+cs0.length)) q vs
 rw [<-ad,ap,aaF _ _ _ _ aS,<-List.append_assoc] at e
 exact e.symm
theorem XJ (a5:du E) (hm:Mem E.T W M0 X bl ρ w) {o:Oper} {t sz i t2 g k q:Nat} {l:List (E.T.El t2)} {x y:Operand} {j:Int} {d d':E.T.El t2} {u:aL E.T.El} {bl':List (aJ E.T.El)} {cs:List (aL E.T.El)} {h:Value} {A:Option Addr} {c m:Nat}
 (ao:∀ w,(Go.sizeOf t).run E.P w= .ok sz w) (I:tM (cellsOf u)=true) (aa:Nat.beq (cellsOf u).length sz=true) (hi:bl[i]? =some (.r t2 g k l)) (bz:ρ[i]? =some h) (aN:idx l j=some d) (hle:q+(cellsOf u).length<=((E.T.e t2).cs d).length)
 (gv:KO bl' i=true) (oc:l2 bl (fo ((E.T.e t2).cs d) q (cellsOf u))=(bl',cs)) (f_:(E.T.e t2).gQ cs=some d') (dH:h= .slice A m c) (av:o.op= .store t x y) (ad:a.eval x= .pointer (some ⟨dm A,j.toNat*(E.T.ty t2).size+q,none⟩)) (hu:aw E.T (bm X bl ρ w) w ρ bl u (a.eval y)) :
 gE E o a W M0 X bl ρ w ⟨none,bl'.set i (.r t2 g (k+ 1) (l.set j.toNat d')),[i]⟩:=by
 have sI:=mR hu
 have yV:=sI.len
 obtain ⟨cR,bF,xs,ak,al,aT⟩:=hm.ok i _ _ hi bz
 rw [dH] at ak
 simp only [Value.slice.injEq] at ak
 obtain ⟨rfl,rfl,rfl⟩:=ak
 obtain ⟨aaf,vO,E4⟩:=j0 aN
 obtain ⟨dY,rfl,sG,hc,jX⟩:=rH (by omega) (dH ▸ al)
 obtain ⟨cs0,bp,bI⟩:=FV (E.T.ty t2) aT E4
 have Zh:=a5.tb.cells (ρ:=ρ) (bl:=bl) bp
 have k9:=Zh.len
 have I0:=(E.T.ty t2).len bp
 obtain ⟨di,t1,v1⟩:=Io hm oc (Zh.lay sI hle)
 have gP:=a5.tb.gQ _ _ _ f_ _ _ _ _ _ v1
 have oh:=tR _ aT
 have hbound:j.toNat*(E.T.ty t2).size+q+(a.eval y).cells.toList.length<=xs.length:=by
  rw [oh,yV]
  exact aaP vO (by omega)
 obtain ⟨w',bj,bk,cg⟩:=acO (E:=E) (a:=a) (v:=a.eval y) (vs:=(a.eval y).cells.toList) (by simp) ao (by rw [yV];exact aa) (FA I sI) (show 0 <l.length by omega) (dH ▸ al) hbound av (by simpa [dm] using ad) rfl
 have cP:bl'[i]? =some (.r t2 g k l):=by
  rcases Im oc i with e | ⟨t',g',k',l',bU,dn⟩
  · exact e.trans hi
  · unfold KO at gv
    rw [cY,dn] at gv
    cases gv
 have aI:bA (aJ.r t2 g k l) h= [dY]:=by subst dH;simpa [bA] using jX _
 have aru:=I7 (B':=aJ.r t2 g (k+ 1) (l.set j.toNat d')) (w':=w') (o:=o) (a:=a) di cP bz (by rw [aI];exact bk) rfl ⟨rfl,rfl,Nat.le_succ _,fun e=>absurd e (by simp [gA])⟩ bj (fun aM=>by
  refine ⟨some ⟨dY,0,none⟩,c,fo xs (j.toNat*(E.T.ty t2).size+q) (a.eval y).cells.toList,by subst dH;simp,by subst dH;simpa using cg,?_⟩
  have aq9:dT (E.T.ty t2) (bm X (bl'.set i (aJ.r t2 g (k+ 1) (l.set j.toNat d'))) ρ w') w' xs l:=mu _ (t1.trans aM).F aT
  have m8:=(E.T.ty t2).law aM.F gP
  have c0:=S3 m8 aq9 vO
  have e:xs.take (j.toNat*(E.T.ty t2).size)++fo cs0 q (a.eval y).cells.toList++xs.drop (j.toNat*(E.T.ty t2).size+(E.T.ty t2).size)=fo xs (j.toNat*(E.T.ty t2).size+q) (a.eval y).cells.toList:=by
   have g8:=Ys bI
   have h0:=atM (q:=q) (vs:=(a.eval y).cells.toList) g8 (by rw [I0,oh];have:=aaP (o:=0) (k:=(E.T.ty t2).size) (sz:=(E.T.ty t2).size) vO (by omega);omega) (by omega)
   rw [I0] at h0
   exact h0
  rw [<-e]
  exact c0)
 refine gE.first t1 (fun i' Ev B' g' FI ah ay aS=>?_) aru
 simp only [List.mem_singleton] at Ev
 subst Ev
 exact ⟨_,hi,by rw [cP] at ah;cases ah;exact aS⟩
end
end bB
namespace bB
open Go Go.RowKit ax J
section
variable {E:Env} {W w w':World} {M0:List Nat} {X:Nat->Prop} {n:cN} {f:cE E.T.El} {bl:List (aJ E.T.El)} {ρ:List Value} {a:Act} {cur:List (Nat × Bool)}
theorem aoH (a5:du E) (hm:Mem E.T W M0 X bl ρ w) {o:Oper} {t:Nat} {x y:Operand} {p u:aL E.T.El} {e:ep E.T.El} (h:(Nx E bl t p u).out e) (av:o.op= .store t x y)
 (aH:aw E.T (bm X bl ρ w) w ρ bl p (a.eval x)) (hu:aw E.T (bm X bl ρ w) w ρ bl u (a.eval y)):gE E o a W M0 X bl ρ w e:=by
 unfold Nx at h
 split at h
 · rename_i b sz ap I
   have ao:=(E_ ap).2
   split at h
   · rename_i aa
     have sI:=mR hu
     have yV:=sI.len
     split at h
     · rename_i i cU
       split at h
       · rename_i ty cs hi
         rw [cY] at hi
         split at h
         · rename_i ah
           have h:(⟨none,bl.set i (.c ty (fo cs cU (cellsOf u))),[i]⟩:ep E.T.El)=e:=h
           subst h
           have ah:=Nat.le_of_ble_eq_true ah
           simp only [aw] at aH
           obtain ⟨g,ay,aq3⟩:=aH
           obtain ⟨g',vs,ak,al,aT⟩:=hm.ok i _ _ hi ay
           simp only [Value.pointer.injEq,Option.some.injEq,Addr.mk.injEq,and_true] at ak
           subst ak
           have aqL:=aT.len
           obtain ⟨w',bj,bk,cg⟩:=Vj (tb:=ty) (cs:=vs) (v:=a.eval y) (vs:=(a.eval y).cells.toList) (by simp) ao (by rw [yV];exact aa) (FA I sI) (by rw [yV,aqL];exact Nat.ble_eq_true_of_le ah) (show (a7.dV g ty vs).ok w from al) av aq3 rfl
           refine I7 (B':=aJ.c ty (fo cs cU (cellsOf u))) hm hi ay (by simpa [bA,bB.ah] using bk) rfl ⟨rfl,rfl,Nat.le_refl _,fun _=>rfl⟩ bj (fun aM=>⟨g,ax.lay vs cU (a.eval y).cells.toList,rfl,cg,?_⟩)
           rw [Jl]
           exact (aM.vs aT).lay (aM.vs sI) ah
         · exact h.elim
       · exact h.elim
     · rename_i i g k t' j d cU
       split at h
       · rename_i t2 bE bk l hi
         rw [cY] at hi
         simp only [aw] at aH
         obtain ⟨_,aN,bz,hle,af⟩:=aH
         rw [hi] at af
         split at h
         · rename_i ay ai
           have ay:=Nat.eq_of_beq_eq_true ay
           have ai:=Nat.eq_of_beq_eq_true ai
           subst ay;subst ai
           obtain ⟨⟨A,m,c,bp,bI,b2,gj⟩,avX,RP⟩:=af rfl
           obtain ⟨l',cd,c7⟩:=RP rfl
           split at h
           · rename_i bl' cs aEi oc aD8 Ej
             simp only [p6,Option.some.injEq,Sigma.mk.injEq] at cd
             obtain ⟨fR,cd⟩:=cd
             subst fR
             have cd:=eq_of_heq cd
             subst cd
             split at h
             · rename_i d' f_ gv
               have h:(⟨none,bl'.set i (.r t2 g (k+ 1) (l.set j.toNat d')),[i]⟩:ep E.T.El)=e:=h
               subst h
               exact XJ a5 hm ao I aa hi bz c7 (Nat.le_of_ble_eq_true Ej) gv oc f_ bp av (by simpa [ix] using gj) hu
             · exact h.elim
           · exact h.elim
         · rename_i ay ai
           have ay:=Nat.eq_of_beq_eq_true ay
           subst ay
           obtain ⟨⟨A,m,c,bp,bI,b2,gj⟩,_⟩:=af rfl
           obtain ⟨d1,c7,h⟩:=h
           dsimp only at h
           split at h
           · rename_i bl' cs oc Ej
             split at h
             · rename_i d' f_ gv
               have h:(⟨none,bl'.set i (.r t2 g (bk+ 1) (l.set j.toNat d')),[i]⟩:ep E.T.El)=e:=h
               subst h
               exact XJ a5 hm ao I aa hi bz c7 (Nat.le_of_ble_eq_true Ej) gv oc f_ bp av (by simpa [ix] using gj) hu
             · exact h.elim
           · exact h.elim
         · exact h.elim
       · exact h.elim
     · rename_i i g cU
       split at h
       · rename_i t2 s2 bE cs hi
         rw [cY] at hi
         split at h
         · rename_i ah
           simp only [Bool.and_eq_true] at ah
           have h:(⟨none,bl.set i (.k t2 s2 bE (fo cs cU (cellsOf u))),[i]⟩:ep E.T.El)=e:=h
           subst h
           simp only [aw] at aH
           obtain ⟨_,aN,bz,hle,af⟩:=aH
           rw [hi] at af
           have ay:=Nat.eq_of_beq_eq_true ah.1
           subst ay
           obtain ⟨A,m,c,bp,bI,b2⟩:=af rfl
           obtain ⟨cR,eR,bF,xs,ak,al,aT⟩:=hm.ok i _ _ hi bz
           rw [ak] at bp
           simp only [Value.slice.injEq] at bp
           obtain ⟨rfl,rfl,rfl⟩:=bp
           subst ak
           have Zf:=Nat.le_of_ble_eq_true ah.2
           have aqM:=aT.len
           obtain ⟨dY,rfl,sG,hc,jX⟩:=rH bI al
           obtain ⟨w',bj,bk,cg⟩:=acO (E:=E) (a:=a) (v:=a.eval y) (vs:=(a.eval y).cells.toList) (by simp) ao (by rw [yV];exact aa) (FA I sI) bI al (by rw [yV,aqM];exact Zf) av (by simpa [dm] using b2) rfl
           have aI:bA (aJ.k t2 s2 g cs) (.slice (some ⟨dY,0,none⟩) eR bF)= [dY]:=by simpa [bA] using jX _
           exact I7 (B':=aJ.k t2 s2 g (fo cs cU (cellsOf u))) hm hi bz (by rw [aI];exact bk) rfl ⟨rfl,rfl,Nat.le_refl _,fun _=>rfl⟩ bj (fun aM=>⟨_,_,_,_,rfl,cg,(aM.vs aT).lay (aM.vs sI) Zf⟩)
         · exact h.elim
       · exact h.elim
     · exact h.elim
   · exact h.elim
 · exact h.elim
theorem XO {F:Nat->Prop} {bT vt:Nat} {K:iM (E.T.El bT)} {k:E.T.El bT} {v:E.T.El vt} {u:Value} (hu:yo E.T F w vt v u):∀ {es:List MapEntry} {d:List (E.T.El bT × E.T.El vt)} {p:Nat},jz E.T F w K es d->iZ K d k=some p->jz E.T F w K (es.modify p fun e=>{ e with key:=K.enc k,val:=u }) (rj K d k v)
 | [],[],_,_,aH=>by simp [iZ,nj] at aH
 | [],_::_,_,h,_=>h.elim
 | _::_,[],_,h,_=>h.elim
 | e::es,q::d,p,h,aH=>by
   obtain ⟨I,aa,au⟩:=h
   by_cases aS:q.1 =k
   · simp only [iZ,nj,if_pos aS,Option.some.injEq] at aH
     subst aH
     simp only [rj,hD,if_pos aS,List.modify_zero_cons]
     exact ⟨rfl,hu,au⟩
   · simp only [iZ,nj,if_neg aS,Option.map_eq_some_iff] at aH
     obtain ⟨rA,vE,rfl⟩:=aH
     simp only [rj,hD,if_neg aS,List.modify_succ_cons]
     exact ⟨I,aa,XO hu au vE⟩
theorem XN {F:Nat->Prop} {bT vt:Nat} {K:iM (E.T.El bT)} {k:E.T.El bT} {v:E.T.El vt} {u:Value} {c:Nat} (hu:yo E.T F w vt v u):∀ {es:List MapEntry} {d:List (E.T.El bT × E.T.El vt)},jz E.T F w K es d->iZ K d k=none->jz E.T F w K (es++[{ key:=K.enc k,val:=u,born:=c }]) (rj K d k v)
 | [],[],_,_=>⟨rfl,hu,trivial⟩
 | [],_::_,h,_=>h.elim
 | _::_,[],h,_=>h.elim
 | e::es,q::d,h,aH=>by
   obtain ⟨I,aa,au⟩:=h
   by_cases aS:q.1 =k
   · simp [iZ,nj,if_pos aS] at aH
   · simp only [iZ,nj,if_neg aS,Option.map_eq_none_iff] at aH
     simp only [rj,hD,if_neg aS,List.cons_append]
     exact ⟨I,aa,XN hu au aH⟩
theorem XM {F:Nat->Prop} {bT vt:Nat} {K:iM (E.T.El bT)} {k:E.T.El bT}:∀ {es:List MapEntry} {d:List (E.T.El bT × E.T.El vt)} {p:Nat},jz E.T F w K es d->iZ K d k=some p-> ∃ e,es[p]? =some e/\e.key=K.enc k
 | [],[],_,_,aH=>by simp [iZ,nj] at aH
 | [],_::_,_,h,_=>h.elim
 | _::_,[],_,h,_=>h.elim
 | e::es,q::d,p,h,aH=>by
   obtain ⟨I,aa,au⟩:=h
   by_cases aS:q.1 =k
   · simp only [iZ,nj,if_pos aS,Option.some.injEq] at aH
     subst aH
     exact ⟨e,rfl,by rw [I,aS]⟩
   · simp only [iZ,nj,if_neg aS,Option.map_eq_some_iff] at aH
     obtain ⟨rA,vE,rfl⟩:=aH
     simpa using XM au vE
def H_ (E:Env) (bl:List (aJ E.T.El)) (t:Nat) (u k v:aL E.T.El):D (ep E.T.El):=match u,mapOf E.P t with
 | .m i,some (E5,_)=>match nth bl i with
   | some (.m bT vt d)=>match (E.T.e bT).key with
     | some K=>match l2 bl (cellsOf v) with
       | (bl',cs)=>match HU (E.P.underlying E5) K.desc,(E.T.e bT).gQ (cellsOf k),(E.T.e vt).gQ cs,(match j1 k with | true=>(E.T.e bT).agg | false=>!(E.T.e bT).agg) && (match j1 v with | true=>(E.T.e vt).agg | false=>!(E.T.e vt).agg) with
         | true,some key,some val,true=>.ok ⟨none,bl'.set i (.m bT vt (rj K d key val)),[i]⟩
         | _,_,_,_=>.no
     | none=>.no
   | _=>.no
 | _,_=>.no
theorem Yo (a5:du E) (hm:Mem E.T W M0 X bl ρ w) {o:Oper} {t:Nat} {x y z:Operand} {u k v:aL E.T.El} {e:ep E.T.El} (h:(H_ E bl t u k v).out e) (av:o.op= .mapUpdate t x y z\/o.op= .insert t x y z)
 (ad:aw E.T (bm X bl ρ w) w ρ bl u (a.eval x)) (hy:aw E.T (bm X bl ρ w) w ρ bl k (a.eval y)) (aj:aw E.T (bm X bl ρ w) w ρ bl v (a.eval z)):gE E o a W M0 X bl ρ w e:=by
 unfold H_ at h
 split at h
 · rename_i i E5 aED aqO
   split at h
   · rename_i bT vt d hi
     rw [cY] at hi
     split at h
     · rename_i K cT
       split at h
       rename_i bl' cs oc
       split at h
       · rename_i key val aN PA og sE
         have h:(⟨none,bl'.set i (.m bT vt (rj K d key val)),[i]⟩:ep E.T.El)=e:=h
         subst h
         simp only [Bool.and_eq_true] at sE
         simp only [aw] at ad
         obtain ⟨r,aB,jn⟩:=ad
         have EC:a.eval y=K.enc key:=by
          have ak:=a5.tb.gQ _ _ _ PA _ _ _ _ _ (mR hy)
          exact (Mz hy sE.1).trans (a5.tb.key _ _ cT _ _ _ _ ak)
         obtain ⟨di,t1,v1⟩:=Io hm oc (mR aj)
         have gP:=a5.tb.gQ _ _ _ og _ _ _ _ _ v1
         have cP:bl'[i]? =some (.m bT vt d):=by
          rcases Im oc i with e | ⟨t',g',k',l',bU,dn⟩
          · exact e.trans hi
          · rw [hi] at bU;cases bU
         have ZX:yo E.T (bm X bl' ρ w) w vt val (a.eval z):=⟨_,gP,Mz aj sE.2⟩
         obtain ⟨h4,ak,alL,D9,es,clock,bp,bI,b2,gj⟩:=di.ok i _ _ cP aB
         simp only [Value.map.injEq,Option.some.injEq] at ak
         subst ak
         rw [cT] at D9
         cases D9
         have hu:=QW aqO
         have sR:=W8 aN
         have bx:r <w.heap.size:=(Array.getElem?_eq_some_iff.1 bp).1
         have jF:∀ cU:Obj,br [r] w { w with heap:=w.heap.setIfInBounds r cU }:=fun cU=>⟨rfl,rfl,rfl,by simp,fun q _ aF=>by
          show (w.heap.setIfInBounds r cU)[q]? =_
          rw [Array.getElem?_setIfInBounds,if_neg (fun e=>aF (by simp [e]))]⟩
         refine gE.first t1 (fun i' Ev B' g' FI ah ay aS=>?_) ?_
         · simp only [List.mem_singleton] at Ev
           subst Ev
           rw [cP] at ah
           cases ah
           exact ⟨_,hi,aS⟩
         have fin:∀ (yz:Array MapEntry) (bF:Nat),pa E.P o a w { w with heap:=w.heap.setIfInBounds r (.map yz bF) } ->jz E.T (bm X bl' ρ w) w K yz.toList (rj K d key val)->(yz.toList.map (·.born)).Pairwise (· < ·)->(∀ e ∈ yz.toList,e.born <bF) ->
          gE E o a W M0 X bl' ρ w ⟨none,bl'.set i (.m bT vt (rj K d key val)),[i]⟩:=fun yz bF P_ I aa au=>by
          refine I7 (B':=aJ.m bT vt (rj K d key val)) (w':={ w with heap:=w.heap.setIfInBounds r (.map yz bF) }) di cP aB (by simpa [bA,bB.ah] using jF _) rfl ⟨rfl,rfl,Nat.le_refl _,fun _=>rfl⟩ P_ (fun aM=>⟨r,rfl,K,cT,yz,bF,by simp [bx],I.law aM.F,aa,au⟩)
         rcases Th (vt:=vt) key sR bI w with ⟨f1,f2,f3⟩ | ⟨p,ahI,CO,f1,f2,f3,f4⟩
         · refine fin (es.push { key:=K.enc key,val:=a.eval z,born:=clock }) (clock+ 1) ?_ ?_ ?_ ?_
           · rcases av with av | av <;>
             · simp only [pa,execOp,av,jn,EC,Instr.mapUpdate,Sem.run_bind,run_underlying hu,Result.andThen_ok,MapKept.run_getObj_map bp,@ki.check _ K.dec K.pH E.P w false E5 key sR,f3,MapKept.run_setObj_map _ bp]
               rfl
           · simpa using XN ZX bI f2
           · simp only [Array.toList_push,List.map_append,List.map_cons,List.map_nil,List.pairwise_append]
             refine ⟨b2,by simp,fun b ah c hc=>?_⟩
             obtain ⟨e,he,rfl⟩:=List.mem_map.1 ah
             simp only [List.mem_singleton] at hc
             subst hc
             exact gj e he
           · intro e he
             simp only [Array.toList_push,List.mem_append,List.mem_singleton] at he
             rcases he with he | rfl
             · exact Nat.lt_succ_of_lt (gj e he)
             · exact Nat.lt_succ_self _
         · obtain ⟨e,he,aqg⟩:=XM (k:=key) bI f2
           have aqd:es[p]? =some e:=by simpa using he
           have Zg:((es.modify p fun e=>{ e with key:=K.enc key,val:=a.eval z }).toList.map (·.born))=es.toList.map (·.born):=by
            rw [Array.toList_modify]
            apply List.ext_getElem?
            intro i
            simp only [List.getElem?_map,List.getElem?_modify]
            cases hi:es.toList[i]? with
            | none=>simp
            | some e'=>by_cases IL:p=i <;> simp [IL]
           refine fin (es.modify p fun e=>{ e with key:=K.enc key,val:=a.eval z }) clock ?_ ?_ ?_ ?_
           · have PB:(Instr.keyThatStays e.key (K.enc key)).run E.P w= .ok (K.enc key) w:=by
              rw [aqg];simp only [Instr.keyThatStays,@ki.bits _ K.dec K.pH,if_true];rfl
             rcases av with av | av <;>
             · simp only [pa,execOp,av,jn,EC,Instr.mapUpdate,Sem.run_bind,run_underlying hu,Result.andThen_ok,MapKept.run_getObj_map bp,@ki.check _ K.dec K.pH E.P w false E5 key sR,f4,aqd,Option.map_some,Option.getD_some,PB,MapKept.run_setObj_map _ bp]
               rfl
           · rw [Array.toList_modify];exact XO ZX bI f2
           · rw [Zg];exact b2
           · intro ak aqe
             have:ak.born ∈ es.toList.map (·.born):=by rw [<-Zg];exact List.mem_map.2 ⟨ak,aqe,rfl⟩
             obtain ⟨al,aqf,heq⟩:=List.mem_map.1 this
             rw [<-heq];exact gj al aqf
       · exact h.elim
     · exact h.elim
   · exact h.elim
 · exact h.elim
end
end bB
namespace bB
open Go Go.RowKit ax J
section
variable {P:Program} {w w':World}
def A1 (w:World) (sz m:Nat) (A:Option Addr) (news:List Value):Prop:=(m= 0 /\news= [])\/ ∃ ej,A=some ej/\news.length=m*sz/\(∀ j u,news[j]? =some u->w.cell? (ej.add j)=some u)/\ ∀ u ∈ news,u.oneCell'=true
theorem ayv {t ty e:TypeId} {i:TypeInfo} (aM:P.underlying t=some (.slice e)) (hi:P.info? e=some i) (A c8:Option Addr) (n c c2:Nat) (hle:n<=c):(Builtin.append_ #[t,t] ty #[.slice A n c,.slice c8 0 c2]).run P w= .ok (.slice A n c) w:=by
 cases A <;> cases c8 <;> simp [Builtin.append_,run_underlying aM,Go.sizeOf,typeInfo,hi,Builtin.lenOf,Builtin.firstCells,hle,storeCells,loadCells,loadCellsFrom]
theorem rowIs.short {t sz n c k:Nat} {A:Option Addr} {xs:List Value} (e:rowIs w t sz (.slice A n c) n xs) (ai:k<=n):rowIs w t sz (.slice A k c) k (xs.take (k*sz)):=by
 have ap:=e.len
 have PB:k*sz<=n*sz:=Nat.mul_le_mul_right sz ai
 rcases e with e | ⟨rfl,rfl,cR,e⟩
 · rcases e.2 with ⟨I,aP⟩ | ⟨g,cap,cur,I,aa,au,bb,c0,g8,h0⟩
   · simp only [Value.slice.injEq] at I
     obtain ⟨rfl,rfl,rfl⟩:=I
     have:k= 0 :=by omega
     subst this
     exact .inl ⟨by simp,.inl ⟨rfl,rfl⟩⟩
   · simp only [Value.slice.injEq] at I
     obtain ⟨rfl,_,rfl⟩:=I
     refine .inl ⟨by rw [List.length_take];omega,.inr ⟨g,c,cur,rfl,aa,au,by omega,c0,g8,?_⟩⟩
     rw [<-h0,List.take_take,Nat.min_eq_left PB]
 · have:k= 0 :=by omega
   subst this
   simp only [Value.slice.injEq] at e
   obtain ⟨rfl,_,rfl⟩:=e
   exact .inr ⟨rfl,by simp,A,rfl⟩
theorem Wd {t ty e:TypeId} {i:TypeInfo} {z:Value} {bytes sz:Nat} (aM:P.underlying t=some (.slice e)) (hi:P.info? e=some i) (aj:i.zero=some z) (dI:i.size=sz) (l7:i.bytes=bytes) (Qb:z.cells.size=sz) (gO:0 <sz)
 {A c8:Option Addr} {n c m c2:Nat} {xs news:List Value} (aB:rowIs w e sz (.slice A n c) n xs) (ao:A1 w sz m c8 news) (Bw:n+m<=maxLen) (ah:(n+m)*bytes<= 140737488355328) :
 ∃ cR bF w',(Builtin.append_ #[t,t] ty #[.slice A n c,.slice c8 m c2]).run P w= .ok (.slice cR (n+m) bF) w'/\rowIs w' e sz (.slice cR (n+m) bF) (n+m) (xs++news)/\br (bB.ah (.slice A n c)) w w'/\ ∀ k ∈ bB.ah (.slice cR (n+m) bF),k ∈ bB.ah (.slice A n c)\/(w.heap.size<=k/\k <w'.heap.size):=by
 have qU:=aB.cap
 rcases Nat.eq_zero_or_pos m with aP | hm
 · subst aP
   have aF:news= []:=by
    rcases ao with ⟨_,h⟩ | ⟨_,_,h,_⟩
    · exact h
    · exact List.eq_nil_of_length_eq_zero (by simpa using h)
   subst aF
   exact ⟨A,c,w,ayv aM hi A c8 n c c2 qU.1,by simpa using aB,br.refl _ _,fun k ai=>.inl ai⟩
 · obtain ⟨ej,rfl,ap,im,yZ⟩:∃ ej,c8=some ej/\news.length=m*sz/\(∀ j u,news[j]? =some u->w.cell? (ej.add j)=some u)/\ ∀ u ∈ news,u.oneCell'=true:=by
    rcases ao with ⟨h,_⟩ | h
    · omega
    · exact h
   have grow:∀ {fi:Value} {w':World} {b:Nat},w'.ownsRow b e sz fi (n+m) (xs++news)-> ∃ g cap cur,fi= .slice (some ⟨g,0,none⟩) (n+m) cap/\b<=g/\w'.heap[g]? =some (.cells cur e (0,0))/\n+m<=cap:=fun {fi w' b} h=>by
    rcases h.2 with ⟨_,aP⟩ | ⟨g,cap,cur,I,aa,au,bb,_⟩
    · omega
    · exact ⟨g,cap,cur,I,aa,au,bb⟩
   have Wj:∀ {fi:Value} {w':World} {b:Nat},w'.ownsRow b e sz fi (n+m) (xs++news)->w'.ownsRow 0 e sz fi (n+m) (xs++news):=fun {fi w' b} h=>⟨h.1,h.2.imp id fun ⟨g,cap,cur,bp,_,b2⟩=>⟨g,cap,cur,bp,Nat.zero_le _,b2⟩⟩
   rcases Nat.eq_zero_or_pos c with hc | hc
   · subst hc
     have aF:n= 0 :=by omega
     subst aF
     have ad:xs= []:=List.eq_nil_of_length_eq_zero (by rw [aB.len];simp)
     subst ad
     have qT:bB.ah (.slice A 0 0)= []:=by cases A <;> rfl
     rw [qT]
     cases A with
     | none=>
       obtain ⟨fi,w',bj,bk,cg,_,nc⟩:=run_append_own_at (P:=P) w w.heap.size t ty e i z sz bytes aM hi aj dI l7 Qb gO (.slice none 0 0) 0 [] ⟨by simp,.inl ⟨rfl,rfl⟩⟩ ej m c2 news ap im yZ Bw ah (Nat.le_refl _)
       obtain ⟨g,cap,cur,rfl,bI,b2,gj⟩:=grow (b:=w.heap.size) bk
       refine ⟨_,_,w',bj,.inl (Wj bk),br.grown cg,fun k ai=>?_⟩
       right
       have:k=g:=by
        cases cap with
        | zero=>simp [bB.ah] at ai
        | succ q=>simpa [bB.ah] using ai
       subst this
       exact ⟨bI,(Array.getElem?_eq_some_iff.1 b2).1⟩
     | some b=>
       obtain ⟨fi,w',bj,bk,cg⟩:=run_append_arg_grows (P:=P) w t ty e i z sz bytes aM hi aj dI l7 Qb gO b 0 0 [] (by simp) (fun j u hu=>by simp at hu) ej m c2 news ap im (by omega) Bw ah
       obtain ⟨g,cap,cur,rfl,bI,b2,gj⟩:=grow (b:=w.heap.size) bk
       refine ⟨_,_,w',bj,.inl (Wj bk),br.grown cg,fun k ai=>?_⟩
       right
       have:k=g:=by
        cases cap with
        | zero=>simp [bB.ah] at ai
        | succ q=>simpa [bB.ah] using ai
       subst this
       exact ⟨bI,(Array.getElem?_eq_some_iff.1 b2).1⟩
   · obtain ⟨vq,rfl⟩:=qU.2.2.2 hc
     have jZ:w.ownsRow 0 e sz (.slice (some ⟨vq,0,none⟩) n c) n xs:=by
      rcases aB with h | ⟨_,_,cR,h⟩
      · exact h
      · simp only [Value.slice.injEq] at h;omega
     obtain ⟨fi,w',bj,bk,cg,_,nc⟩:=run_append_own_at (P:=P) w 0 t ty e i z sz bytes aM hi aj dI l7 Qb gO (.slice (some ⟨vq,0,none⟩) n c) n xs jZ ej m c2 news ap im yZ Bw ah (Nat.zero_le _)
     obtain ⟨g,cap,cur,rfl,bI,b2,gj⟩:=grow (b:=0) bk
     have Ei:bB.ah (.slice (some ⟨vq,0,none⟩) n c)= [vq]:=by
      cases c with
      | zero=>omega
      | succ c=>rfl
     rw [Ei]
     refine ⟨_,_,w',bj,.inl bk,br.grown cg,fun k ai=>?_⟩
     have:k=g:=by
      cases cap with
      | zero=>simp [bB.ah] at ai
      | succ q=>simpa [bB.ah] using ai
     subst this
     rcases nc with dn | dn
     · left
       simp only [Value.ownBlock,Option.some.injEq] at dn
       simp [dn]
     · right
       simp only [Value.ownBlock,Option.some.injEq] at dn
       rw [dn]
       refine ⟨Nat.le_refl _,?_⟩
       rw [<-dn]
       exact (Array.getElem?_eq_some_iff.1 b2).1
end
def qH (P:Program) (t:TypeId):Option (Nat × Nat × Nat):=match P.underlying t with
 | some (.slice e)=>match P.info? e with
   | some i=>match i.zero with
     | some z=>match Nat.beq z.cells.size i.size && Nat.blt 0 i.size && Nat.blt 0 i.bytes with
       | true=>some (e,i.size,i.bytes)
       | false=>none
     | none=>none
   | none=>none
 | _=>none
theorem vk {P:Program} {t e sz b1:Nat} (h:qH P t=some (e,sz,b1)):P.underlying t=some (.slice e)/\ ∃ i z,P.info? e=some i/\i.zero=some z/\i.size=sz/\i.bytes=b1/\z.cells.size=sz/\ 0 <sz/\ 0 <b1:=by
 unfold qH at h
 split at h
 · rename_i e' I
   split at h
   · rename_i i aa
     split at h
     · rename_i z au
       split at h
       · rename_i bb
         simp only [Option.some.injEq,Prod.mk.injEq] at h
         obtain ⟨rfl,rfl,rfl⟩:=h
         simp only [Bool.and_eq_true] at bb
         exact ⟨I,i,z,aa,au,rfl,rfl,Nat.eq_of_beq_eq_true bb.1.1,Nat.le_of_ble_eq_true bb.1.2,Nat.le_of_ble_eq_true bb.2⟩
       · cases h
     · cases h
   · cases h
 · cases h
def vd {El:Nat->Type} (t t':Nat) (l:List (El t)):Option (List (El t')):=match Nat.decEq t t' with
 | .isTrue h=>some (h ▸ l)
 | .isFalse _=>none
def BR {El:Nat->Type} {t:Nat} (e:b9 El t):List (List (aL El))->Option (List (El t))
 | []=>some []
 | c::r=>match e.gQ c,BR e r with
   | some d,some ds=>some (d::ds)
   | _,_=>none
def Bb {α:Type} (sz:Nat):Nat->List α->List (List α)
 | 0,_=>[]
 | n+ 1,l=>l.take sz::Bb sz n (l.drop sz)
def Gm (E:Env) (bl:List (aJ E.T.El)) (t:Nat):aL E.T.El->Option (List (E.T.El t))
 | .s t' l=>vd t' t l
 | .q t' l=>vd t' t l
 | .p (.slice none 0 0)=>some []
 | .p (.slice (some _) 0 _)=>some []
 | .r j g=>match nth bl j with
   | some (.r t' bE _ l)=>match Nat.beq g bE with
     | true=>vd t' t l
     | false=>none
   | some (.k _ sz bE cs)=>match Nat.beq g bE && Nat.beq sz (E.T.ty t).size && Nat.blt 0 sz with
     | true=>BR (E.T.e t) (Bb sz (cs.length / sz) cs)
     | false=>none
   | _=>none
 | .v j g lo hi=>match nth bl j with
   | some (.r t' bE _ l)=>match Nat.beq g bE with
     | true=>vd t' t ((l.take hi.toNat).drop lo.toNat)
     | false=>none
   | _=>none
 | _=>none
section
variable {E:Env} {W w w':World} {M0:List Nat} {X:Nat->Prop} {n:cN} {f:cE E.T.El} {bl:List (aJ E.T.El)} {ρ:List Value} {a:Act} {cur:List (Nat × Bool)}
theorem A_ {El:Nat->Type} {t t':Nat} {l:List (El t)} {l':List (El t')} (h:vd t t' l=some l'):∃ e:t=t',e ▸ l=l':=by
 unfold vd at h
 split at h
 · rename_i e _
   simp only [Option.some.injEq] at h
   exact ⟨e,h⟩
 · cases h
theorem Qh (a5:du E) {F:Nat->Prop} {t sz:Nat}:∀ (n:Nat) {cs:List (aL E.T.El)} {vs:List Value} {l:List (E.T.El t)},a4 E.T F w ρ bl cs vs->vs.length=n*sz->BR (E.T.e t) (Bb sz n cs)=some l->dT (E.T.ty t) F w vs l/\l.length=n
 | 0,cs,vs,l,h,ap,hi=>by
   simp only [Bb,BR,Option.some.injEq] at hi
   subst hi
   exact ⟨List.eq_nil_of_length_eq_zero (by simpa using ap),rfl⟩
 | n+ 1,cs,vs,l,h,ap,hi=>by
   simp only [Bb,BR] at hi
   split at hi
   · rename_i d ds I aa
     simp only [Option.some.injEq] at hi
     subst hi
     have bp:=a5.tb.gQ _ _ _ I _ _ _ _ _ (a4.take sz h)
     obtain ⟨bI,b2⟩:=Qh a5 n (a4.drop sz h) (by rw [List.length_drop,ap,Nat.add_mul];omega) aa
     exact ⟨⟨vs.take sz,vs.drop sz,(List.take_append_drop sz vs).symm,bp,bI⟩,by simp [b2]⟩
   · cases hi
theorem adl {F:Nat->Prop} {t:Nat} {l:List (E.T.El t)} {A:Option Addr} {c:Nat} (h:(b3 (E.T.ty t)).rd F w [.slice A l.length c] l):∃ news,A1 w (E.T.ty t).size l.length A news/\dT (E.T.ty t) F w news l:=by
 obtain ⟨cR,bF,ak,al,aT,bU,dn⟩:=h
 simp only [List.cons.injEq,Value.slice.injEq,and_true,true_and] at ak
 obtain ⟨rfl,rfl⟩:=ak
 by_cases ap:l= []
 · subst ap
   exact ⟨[],.inl ⟨rfl,rfl⟩,rfl⟩
 · obtain ⟨dO,bE,xs,fM,iQ⟩:=dn ap
   exact ⟨xs,.inr ⟨_,dO,tR _ fM,fun j u hu=>by rw [jQ];exact iQ j u hu,Cs _ fM⟩,fM⟩
theorem Tg {t sz n c:Nat} {A:Option Addr} {xs:List Value} (h:rowIs w t sz (.slice A n c) n xs) (I:∀ u ∈ xs,u.oneCell'=true):A1 w sz n A xs:=by
 rcases Nat.eq_zero_or_pos n with aP | aP
 · subst aP
   exact .inl ⟨rfl,List.eq_nil_of_length_eq_zero (by rw [h.len];simp)⟩
 · obtain ⟨g,rfl,_,hc,_⟩:=rH aP h
   exact .inr ⟨_,rfl,h.len,fun j u hu=>by rw [jQ];exact hc j u hu,I⟩
theorem adk (a5:du E) (hm:Mem E.T W M0 X bl ρ w) {t:Nat} {y:aL E.T.El} {l:List (E.T.El t)} {v:Value} (h:Gm E bl t y=some l) (af:aw E.T (bm X bl ρ w) w ρ bl y v) :
 ∃ A c news,v= .slice A l.length c/\A1 w (E.T.ty t).size l.length A news/\dT (E.T.ty t) (bm X bl ρ w) w news l:=by
 unfold Gm at h
 split at h
 · obtain ⟨rfl,rfl⟩:=A_ h
   simp only [aw] at af
   obtain ⟨A,c,rfl⟩:=kK _ af
   obtain ⟨news,I,aa⟩:=adl af
   exact ⟨A,c,news,rfl,I,aa⟩
 · obtain ⟨rfl,rfl⟩:=A_ h
   simp only [aw] at af
   obtain ⟨A,c,rfl⟩:=kK _ af.1
   obtain ⟨news,I,aa⟩:=adl af.1
   exact ⟨A,c,news,rfl,I,aa⟩
 · simp only [Option.some.injEq] at h
   subst h
   simp only [aw] at af
   exact ⟨none,0,[],af,.inl ⟨rfl,rfl⟩,rfl⟩
 · simp only [Option.some.injEq] at h
   subst h
   simp only [aw] at af
   exact ⟨_,_,[],af,.inl ⟨rfl,rfl⟩,rfl⟩
 · rename_i j g
   split at h
   · rename_i t' bE k l' hi
     rw [cY] at hi
     split at h
     · rename_i ah
       obtain ⟨rfl,rfl⟩:=A_ h
       simp only [aw] at af
       obtain ⟨_,aN,bp,bI,b2⟩:=af
       rw [hi] at b2
       obtain ⟨A,c,xs,ak,al,aT⟩:=hm.ok j _ _ hi bp
       rw [b2 (Nat.eq_of_beq_eq_true ah),ak]
       exact ⟨A,c,xs,rfl,Tg (ak ▸ al) (Cs _ aT),aT⟩
     · cases h
   · rename_i t' sz bE cs hi
     rw [cY] at hi
     split at h
     · rename_i ah
       simp only [Bool.and_eq_true] at ah
       simp only [aw] at af
       obtain ⟨_,aN,bp,bI,b2⟩:=af
       rw [hi] at b2
       obtain ⟨A,m,c,xs,ak,al,aT⟩:=hm.ok j _ _ hi bp
       have dI:=Nat.le_of_ble_eq_true ah.2
       have hlen:=aT.len
       have aa:=al.len
       have aS:cs.length / sz=m:=by rw [<-hlen,aa];exact Nat.mul_div_cancel _ dI
       rw [aS] at h
       obtain ⟨cd,c7⟩:=Qh a5 m aT aa h
       rw [b2 (Nat.eq_of_beq_eq_true ah.1.1),ak,c7]
       have:=Tg (ak ▸ al) (Cs _ cd)
       rw [Nat.eq_of_beq_eq_true ah.1.2] at this
       exact ⟨A,c,xs,rfl,this,cd⟩
     · cases h
   · cases h
 · rename_i j g lo cP
   split at h
   · rename_i t' bE k l' hi
     rw [cY] at hi
     split at h
     · rename_i ah
       obtain ⟨rfl,rfl⟩:=A_ h
       simp only [aw] at af
       obtain ⟨_,aN,bp,bI,b2⟩:=af
       rw [hi] at b2
       obtain ⟨cR,eR,bF,B,cF,q9,l1,cp,jn,Iz,bS⟩:=b2 (Nat.eq_of_beq_eq_true ah)
       obtain ⟨A,c,xs,ak,al,aT⟩:=hm.ok j _ _ hi bp
       rw [ak] at cF al
       simp only [Value.slice.injEq] at cF
       obtain ⟨rfl,rfl,rfl⟩:=cF
       have hlen:((l'.take cP.toNat).drop lo.toNat).length=cP.toNat - lo.toNat:=by rw [List.length_drop,List.length_take];omega
       refine ⟨B,c - lo.toNat,(xs.take (cP.toNat*(E.T.ty t').size)).drop (lo.toNat*(E.T.ty t').size),by rw [hlen];exact jn,?_,rF _ _ aT⟩
       have qY:=rF lo.toNat cP.toNat aT
       rcases Int.lt_or_le lo cP with bx | IJ
       · right
         obtain ⟨dY,rfl⟩:=Cw al (by omega)
         obtain ⟨ks,Et,_,hc,_⟩:=rH (by omega) al
         cases Et
         refine ⟨⟨dY,lo.toNat*(E.T.ty t').size,none⟩,by rw [bS bx];simp [jQ,ix],tR _ qY,fun q u hu=>?_,Cs _ qY⟩
         rw [List.getElem?_drop,List.getElem?_take] at hu
         split at hu
         · rw [jQ]
           have:=hc _ u hu
           simpa using this
         · cases hu
       · left
         have:cP.toNat - lo.toNat= 0 :=by omega
         have aP:((l'.take cP.toNat).drop lo.toNat)= []:=List.eq_nil_of_length_eq_zero (by rw [hlen];exact this)
         refine ⟨by rw [aP];rfl,?_⟩
         rw [aP] at qY
         exact qY
     · cases h
   · cases h
 · cases h
end
end bB
namespace bB
open Go Go.RowKit ax J
def KR (E:Env) (bl:List (aJ E.T.El)) (t:Nat):aL E.T.El->Option (Option (Nat × Nat) × List (E.T.El t))
 | .p (.slice none 0 0)=>some (none,[])
 | .q _ []=>some (none,[])
 | .r i g=>match nth bl i with
   | some (.r t' bE _ l)=>match Nat.beq g bE,vd t' t l with
     | true,some l'=>some (some (i,g),l')
     | _,_=>none
   | _=>none
 | .v i g (.ofNat 0) hi=>match nth bl i with
   | some (.r t' bE _ l)=>match Nat.beq g bE,vd t' t (l.take hi.toNat) with
     | true,some l'=>some (some (i,g),l')
     | _,_=>none
   | _=>none
 | _=>none
def w1 (E:Env) (bl:List (aJ E.T.El)) (e sz:Nat):aL E.T.El->Option (Option (Nat × Nat) × List (aL E.T.El))
 | .p (.slice none 0 0)=>some (none,[])
 | .q _ []=>some (none,[])
 | .r i g=>match nth bl i with
   | some (.k t' rM bE cs)=>match Nat.beq g bE && Nat.beq t' e && Nat.beq rM sz with
     | true=>some (some (i,g),cs)
     | false=>none
   | _=>none
 | _=>none
def Nd (E:Env) (bl:List (aJ E.T.El)) (t:Nat) (u v:aL E.T.El):D (ep E.T.El):=match qH E.P t with
 | some (e,sz,b1)=>match Nat.beq sz (E.T.ty e).size,KR E bl e u,Gm E bl e v with
   | true,some (none,_),some m=>.op (bO b1 [] m) fun l=>.ok ⟨some (.r bl.length 0),bl++[.r e 0 0 l],[]⟩
   | true,some (some (i,g),b),some m=>.op (bO b1 b m) fun l=>.ok ⟨some (.r i (g+ 1)),bl.set i (.r e (g+ 1) 0 l),[i]⟩
   | _,_,_=>match w1 E bl e sz u,(match w1 E bl e sz v with
    | some (_,m)=>match tM m with
      | true=>some m
      | false=>none
    | none=>none) with
     | some (none,_),some m=>.op (bO b1 [] (List.replicate (m.length / sz) ())) fun _=>.ok ⟨some (.r bl.length 0),bl++[.k e sz 0 m],[]⟩
     | some (some (i,g),b),some m=>.op (bO b1 (List.replicate (b.length / sz) ()) (List.replicate (m.length / sz) ())) fun _=>.ok ⟨some (.r i (g+ 1)),bl.set i (.k e sz (g+ 1) (b++m)),[i]⟩
     | _,_=>.no
 | none=>.no
section
variable {E:Env} {W w w':World} {M0:List Nat} {X:Nat->Prop} {n:cN} {f:cE E.T.El} {bl:List (aJ E.T.El)} {ρ:List Value} {a:Act} {cur:List (Nat × Bool)}
def Mr (w:World) (bl:List (aJ E.T.El)) (ρ:List Value) (e sz n:Nat) (v:Value) (xs:List Value):Option (Nat × Nat)->Prop
 | none=>∃ A,v= .slice A 0 0 /\n= 0 /\xs= []
 | some (i,g)=>∃ A c h B,v= .slice A n c/\rowIs w e sz v n xs/\bl[i]? =some B/\ρ[i]? =some h/\bA B h=bB.ah v/\mg h/\b4 (some B)=g
theorem ads (hm:Mem E.T W M0 X bl ρ w) {e:Nat} {u:aL E.T.El} {v:Value} {p:Option (Nat × Nat)} {l:List (E.T.El e)} (h:KR E bl e u=some (p,l)) (af:aw E.T (bm X bl ρ w) w ρ bl u v) :
 ∃ xs,Mr (E:=E) w bl ρ e (E.T.ty e).size l.length v xs p/\dT (E.T.ty e) (bm X bl ρ w) w xs l:=by
 unfold KR at h
 split at h
 · simp only [Option.some.injEq,Prod.mk.injEq] at h
   obtain ⟨rfl,rfl⟩:=h
   simp only [aw] at af
   exact ⟨[],⟨none,af,rfl,rfl⟩,rfl⟩
 · simp only [Option.some.injEq,Prod.mk.injEq] at h
   obtain ⟨rfl,rfl⟩:=h
   simp only [aw] at af
   obtain ⟨A,dH⟩:=af.2
   exact ⟨[],⟨A,dH,rfl,rfl⟩,rfl⟩
 · rename_i i g
   split at h
   · rename_i t' bE k l' hi
     rw [cY] at hi
     split at h
     · rename_i cp ah hc
       simp only [Option.some.injEq,Prod.mk.injEq] at h
       obtain ⟨rfl,rfl⟩:=h
       obtain ⟨rfl,rfl⟩:=A_ hc
       have ah:=Nat.eq_of_beq_eq_true ah
       simp only [aw] at af
       obtain ⟨_,aN,bp,bI,b2⟩:=af
       rw [hi] at b2
       have aS:=b2 ah
       obtain ⟨A,c,xs,ak,al,aT⟩:=hm.ok i _ _ hi bp
       rw [aS]
       exact ⟨xs,⟨A,c,aN,_,ak,al,hi,bp,rfl,by rw [ak];trivial,ah.symm⟩,aT⟩
     · cases h
   · cases h
 · rename_i i g cP
   split at h
   · rename_i t' bE k l' hi
     rw [cY] at hi
     split at h
     · rename_i cp ah hc
       simp only [Option.some.injEq,Prod.mk.injEq] at h
       obtain ⟨rfl,rfl⟩:=h
       obtain ⟨rfl,rfl⟩:=A_ hc
       have ah:=Nat.eq_of_beq_eq_true ah
       simp only [aw] at af
       obtain ⟨_,aN,bp,bI,b2⟩:=af
       rw [hi] at b2
       obtain ⟨cR,eR,bF,B,cF,q9,l1,cp,jn,Iz,_⟩:=b2 ah
       obtain ⟨A,c,xs,ak,al,aT⟩:=hm.ok i _ _ hi bp
       rw [ak] at cF al
       simp only [Value.slice.injEq] at cF
       obtain ⟨rfl,rfl,rfl⟩:=cF
       have bS:=Iz rfl
       subst bS
       have hlen:(l'.take cP.toNat).length=cP.toNat:=by rw [List.length_take];omega
       have bU:=al.short (k:=cP.toNat) (by omega)
       have dn:v= .slice B cP.toNat c:=by rw [jn];simp
       rw [dn]
       refine ⟨xs.take (cP.toNat*(E.T.ty t').size),⟨B,c,aN,_,by rw [hlen],by rw [hlen];exact bU,hi,bp,by rw [ak];cases B <;> cases c <;> rfl,by rw [ak];trivial,ah.symm⟩,?_⟩
       have:=rF 0 cP.toNat aT
       simpa using this
     · cases h
   · cases h
 · cases h
theorem TF (hm:Mem E.T W M0 X bl ρ w) {e sz:Nat} {u:aL E.T.El} {v:Value} {p:Option (Nat × Nat)} {cs:List (aL E.T.El)} (dI:0 <sz) (h:w1 E bl e sz u=some (p,cs)) (af:aw E.T (bm X bl ρ w) w ρ bl u v) :
 ∃ xs,Mr (E:=E) w bl ρ e sz (cs.length / sz) v xs p/\a4 E.T (bm X bl ρ w) w ρ bl cs xs:=by
 unfold w1 at h
 split at h
 · simp only [Option.some.injEq,Prod.mk.injEq] at h
   obtain ⟨rfl,rfl⟩:=h
   simp only [aw] at af
   exact ⟨[],⟨none,af,by simp,rfl⟩,by simp [a4]⟩
 · simp only [Option.some.injEq,Prod.mk.injEq] at h
   obtain ⟨rfl,rfl⟩:=h
   simp only [aw] at af
   obtain ⟨A,dH⟩:=af.2
   exact ⟨[],⟨A,dH,by simp,rfl⟩,by simp [a4]⟩
 · rename_i i g
   split at h
   · rename_i t' rM bE jB hi
     rw [cY] at hi
     split at h
     · rename_i ah
       simp only [Bool.and_eq_true] at ah
       simp only [Option.some.injEq,Prod.mk.injEq] at h
       obtain ⟨rfl,rfl⟩:=h
       have bZ:=Nat.eq_of_beq_eq_true ah.1.1
       have ed:=Nat.eq_of_beq_eq_true ah.1.2
       have fX:=Nat.eq_of_beq_eq_true ah.2
       subst ed;subst fX
       simp only [aw] at af
       obtain ⟨_,aN,bp,bI,b2⟩:=af
       rw [hi] at b2
       have aS:=b2 bZ
       obtain ⟨A,m,c,xs,ak,al,aT⟩:=hm.ok i _ _ hi bp
       have hlen:=aT.len
       have aa:=al.len
       have sW:jB.length / rM=m:=by rw [<-hlen,aa];exact Nat.mul_div_cancel _ dI
       rw [aS,sW]
       exact ⟨xs,⟨A,c,aN,_,ak,al,hi,bp,rfl,by rw [ak];trivial,bZ.symm⟩,aT⟩
     · cases h
   · cases h
 · cases h
theorem Wf (hm:Mem E.T W M0 X bl ρ w) {o:Oper} {t e sz b1:Nat} {x y:Operand} {p:Option (Nat × Nat)} {n m:Nat} {xs news:List Value} {c8:Option Addr} {c2:Nat} (B':Nat->aJ E.T.El) (he:qH E.P t=some (e,sz,b1)) (av:o.op= .call { callee:=.builtin .append,args:=#[x,y],argTypes:=#[t,t] })
 (aM:Mr (E:=E) w bl ρ e sz n (a.eval x) xs p) (hy:a.eval y= .slice c8 m c2) (ao:A1 w sz m c8 news) (ah:(n+m)*b1<= 140737488355328)
 (IK:∀ g,b4 (some (B' g))=g) (II:∀ g h,bA (B' g) h=bB.ah h)
 (bS:∀ (bl':List (aJ E.T.El)) (ρ':List Value) (w':World) (g:Nat) (cR:Option Addr) (bF:Nat),To X bl bl' ρ ρ' w w'->rowIs w' e sz (.slice cR (n+m) bF) (n+m) (xs++news)->ig E.T (bm X bl' ρ' w') w' ρ' bl' (B' g) (.slice cR (n+m) bF)) :
 gE E o a W M0 X bl ρ w (match p with
  | none=>⟨some (.r bl.length 0),bl++[B' 0],[]⟩
  | some (i,g)=>⟨some (.r i (g+ 1)),bl.set i (B' (g+ 1)),[i]⟩):=by
 obtain ⟨hu,i0,z,hi,aj,I,aa,au,bb,c0⟩:=vk he
 have Bw:n+m<=maxLen:=by
  have g8:=Nat.le_mul_of_pos_right (n+m) c0
  simp only [maxLen]
  omega
 have na:∀ {A:Option Addr} {c:Nat} {fi:Value} {w':World},a.eval x= .slice A n c->(Builtin.append_ #[t,t] o.type #[.slice A n c,.slice c8 m c2]).run E.P w= .ok fi w'->bh E.P o a w fi w':=fun {A c fi w'} ad g_=>by
  simp only [bh,execOp,av,resolve,invoke,builtin,Sem.run_bind,Sem.run_pure,Result.andThen_ok,List.map_toArray,List.map_cons,List.map_nil,ad,hy,g_]
 cases p with
 | none=>
   obtain ⟨A,ad,rfl,rfl⟩:=aM
   obtain ⟨cR,bF,w',bj,bk,cg,c'⟩:=Wd (w:=w) (ty:=o.type) hu hi aj I aa au bb (show rowIs w e sz (.slice A 0 0) 0 [] from .inr ⟨rfl,rfl,A,rfl⟩) ao Bw ah
   have qT:bB.ah (.slice A 0 0)= []:=by cases A <;> rfl
   rw [qT] at cg c'
   have ag:∀ k ∈ bA (B' 0) (.slice cR (0 +m) bF),w.heap.size<=k/\k <w'.heap.size:=fun k ai=>by
    rw [II] at ai
    rcases c' k ai with e | e
    · simp at e
    · exact e
   have gw:=hm.w2 (B:=B' 0) (h:=.slice cR (0 +m) bF) cg ag
   refine ⟨w',ρ++[.slice cR (0 +m) bF],hm.push cg ag (bS _ _ _ _ _ _ gw bk),gw,fun k ai _=>cg.block k ai (by simp),_,na ad bj,?_⟩
   simp only [aw]
   refine ⟨trivial,.slice cR (0 +m) bF,by rw [<-hm.len];simp,Nat.zero_le _,fun _=>rfl⟩
 | some Z5=>
   obtain ⟨i,g⟩:=Z5
   obtain ⟨A,c,h,B,ad,aB,yM,jG,jX,arm,ay⟩:=aM
   rw [ad] at aB jX
   obtain ⟨cR,bF,w',bj,bk,cg,c'⟩:=Wd (w:=w) (ty:=o.type) hu hi aj I aa au bb aB ao Bw ah
   rw [<-jX] at cg c'
   have ag:∀ k ∈ bA (B' (g+ 1)) (.slice cR (n+m) bF),k ∈ bA B h\/(w.heap.size<=k/\k <w'.heap.size):=fun k ai=>c' k (by rw [II] at ai;exact ai)
   have gw:=hm.CH (B':=B' (g+ 1)) (h':=.slice cR (n+m) bF) yM jG cg ag ⟨fun aF=>absurd arm aF,by rw [IK,ay];omega,fun e=>by rw [IK,ay] at e;omega⟩
   refine ⟨w',ρ.set i (.slice cR (n+m) bF),hm.eb yM jG cg ag gw (bS _ _ _ _ _ _ gw bk),gw,fun k ai cQ=>cg.block k ai (cQ i (by simp) B h yM jG),_,na ad bj,?_⟩
   simp only [aw]
   have l1:=(List.getElem?_eq_some_iff.1 yM).1
   have cp:=(List.getElem?_eq_some_iff.1 jG).1
   refine ⟨trivial,_,List.getElem?_set_self cp,?_,fun _=>rfl⟩
   rw [List.getElem?_set_self l1,IK]
   exact Nat.le_refl _
theorem aoo (a5:du E) (hm:Mem E.T W M0 X bl ρ w) {o:Oper} {t:Nat} {x y:Operand} {u v:aL E.T.El} {r:ep E.T.El} (h:(Nd E bl t u v).out r) (av:o.op= .call { callee:=.builtin .append,args:=#[x,y],argTypes:=#[t,t] })
 (ad:aw E.T (bm X bl ρ w) w ρ bl u (a.eval x)) (hy:aw E.T (bm X bl ρ w) w ρ bl v (a.eval y)):gE E o a W M0 X bl ρ w r:=by
 unfold Nd at h
 split at h
 · rename_i e sz b1 he
   obtain ⟨_,_,_,_,_,_,_,_,gO,_⟩:=vk he
   have adE:∀ {p:Option (Nat × Nat)} {b m l:List (E.T.El e)},Nat.beq sz (E.T.ty e).size=true->KR E bl e u=some (p,b)->Gm E bl e v=some m->bO b1 b m=some l->gE E o a W M0 X bl ρ w (match p with
    | none=>⟨some (.r bl.length 0),bl++[.r e 0 0 l],[]⟩
    | some (i,g)=>⟨some (.r i (g+ 1)),bl.set i (.r e (g+ 1) 0 l),[i]⟩):=fun {p b m l} I aa au bb=>by
    have I:=Nat.eq_of_beq_eq_true I
    subst I
    obtain ⟨ah,rfl⟩:=Hz bb
    obtain ⟨xs,bp,bI⟩:=ads hm aa ad
    obtain ⟨c8,c2,news,cd,c7,hk⟩:=adk a5 hm au hy
    have:=Wf (B':=fun g=>aJ.r e g 0 (b++m)) hm he av bp cd c7 ah (fun _=>rfl) (fun _ _=>rfl) (fun bl' ρ' w' g cR bF gw aB=>⟨cR,bF,xs++news,by rw [List.length_append],by rw [List.length_append];exact aB,FU _ (mu _ gw.F hk) (mu _ gw.F bI)⟩)
    cases p <;> exact this
   have WM:∀ {p q:Option (Nat × Nat)} {b m:List (aL E.T.El)} {l:List Unit},w1 E bl e sz u=some (p,b)->w1 E bl e sz v=some (q,m)->tM m=true->bO b1 (List.replicate (b.length / sz) ()) (List.replicate (m.length / sz) ())=some l->gE E o a W M0 X bl ρ w (match p with
    | none=>⟨some (.r bl.length 0),bl++[.k e sz 0 (b++m)],[]⟩
    | some (i,g)=>⟨some (.r i (g+ 1)),bl.set i (.k e sz (g+ 1) (b++m)),[i]⟩):=fun {p q b m l} I aa PR au=>by
    obtain ⟨ah,_⟩:=Hz au
    simp only [List.length_replicate] at ah
    obtain ⟨xs,bp,bI⟩:=TF hm gO I ad
    obtain ⟨ys,cd,c7⟩:=TF hm gO aa hy
    have PW:∃ c8 c2,a.eval y= .slice c8 (m.length / sz) c2/\A1 w sz (m.length / sz) c8 ys:=by
     cases q with
     | none=>
       obtain ⟨A,ak,al,rfl⟩:=cd
       rw [al]
       exact ⟨A,0,ak,.inl ⟨rfl,rfl⟩⟩
     | some Z5=>
       obtain ⟨A,c,h,B,ak,al,_⟩:=cd
       rw [ak] at al
       exact ⟨A,c,ak,Tg al (fun u hu=>List.all_eq_true.1 (FA PR c7) u hu)⟩
    obtain ⟨c8,c2,s1,s2⟩:=PW
    have:=Wf (B':=fun g=>aJ.k e sz g (b++m)) hm he av bp s1 s2 ah (fun _=>rfl) (fun _ _=>rfl) (fun bl' ρ' w' g cR bF gw aB=>⟨cR,_,bF,xs++ys,rfl,aB,a4.bO (gw.vs bI) (gw.vs c7)⟩)
    cases p <;> exact this
   split at h
   · rename_i b m I aa au
     obtain ⟨l,bb,c0⟩:=h
     have c0:(⟨some (.r bl.length 0),bl++[.r e 0 0 l],[]⟩:ep E.T.El)=r:=c0
     subst c0
     have qT:b= []:=by
      obtain ⟨xs,⟨A,_,al,_⟩,_⟩:=ads hm aa ad
      exact List.eq_nil_of_length_eq_zero al
     subst qT
     exact adE (p:=none) I aa au bb
   · rename_i i g b m I aa au
     obtain ⟨l,bb,c0⟩:=h
     have c0:(⟨some (.r i (g+ 1)),bl.set i (.r e (g+ 1) 0 l),[i]⟩:ep E.T.El)=r:=c0
     subst c0
     exact adE I aa au bb
   · have adj:∀ {m:List (aL E.T.El)},(match w1 E bl e sz v with
      | some (_,m)=>match tM m with
        | true=>some m
        | false=>none
      | none=>none)=some m-> ∃ q,w1 E bl e sz v=some (q,m)/\tM m=true:=fun {m} h=>by
      split at h
      · rename_i q eR aS
        split at h
        · rename_i iT
          simp only [Option.some.injEq] at h
          subst h
          exact ⟨q,aS,iT⟩
        · cases h
      · cases h
     split at h
     · rename_i b m I aa
       obtain ⟨q,aa,au⟩:=adj aa
       obtain ⟨l,bb,c0⟩:=h
       have c0:(⟨some (.r bl.length 0),bl++[.k e sz 0 m],[]⟩:ep E.T.El)=r:=c0
       subst c0
       have qT:b= []:=by
        obtain ⟨xs,⟨A,_,al,aT⟩,bU⟩:=TF hm gO I ad
        subst aT
        exact List.eq_nil_of_length_eq_zero bU.len.symm
       subst qT
       exact WM (p:=none) (b:=[]) I aa au (by simpa using bb)
     · rename_i i g b m I aa
       obtain ⟨q,aa,au⟩:=adj aa
       obtain ⟨l,bb,c0⟩:=h
       have c0:(⟨some (.r i (g+ 1)),bl.set i (.k e sz (g+ 1) (b++m)),[i]⟩:ep E.T.El)=r:=c0
       subst c0
       exact WM I aa au bb
     · exact h.elim
 · exact h.elim
end
end bB
namespace bB
open Go Go.RowKit ax J
def kc {α:Type} (z:List α):Nat->List α
 | 0 =>[]
 | n+ 1 =>z++kc z n
theorem L9 {α:Type} (z:List α):∀ n,(kc z n).length=n*z.length
 | 0 =>by simp [kc]
 | n+ 1 =>by simp only [kc,List.length_append,L9 z n,Nat.add_mul];omega
theorem ah6 {α:Type} {z:List α}:∀ {n i:Nat},i <n*z.length->(kc z n)[i]? =z[i % z.length]?
 | 0,i,h=>by simp at h
 | n+ 1,i,h=>by
   simp only [kc]
   rcases Nat.lt_or_ge i z.length with c | c
   · rw [List.getElem?_append_left c,Nat.mod_eq_of_lt c]
   · rw [List.getElem?_append_right c,ah6 (by rw [Nat.add_mul] at h;omega),Nat.mod_eq_sub_mod c]
theorem ah5 (xF:Array Value) (n:Nat) (h:0 <xF.size):((Array.range (n*xF.size)).map (xF[· % xF.size]!))=⟨kc xF.toList n⟩:=by
 rw [<-Array.toList_inj]
 apply List.ext_getElem?
 intro i
 rcases Nat.lt_or_ge i (n*xF.size) with c | c
 · simp only
   rw [ah6 (by simpa using c)]
   have hm:i % xF.size <xF.size:=Nat.mod_lt _ h
   simp [c,hm]
 · rw [List.getElem?_eq_none (by simpa using c),List.getElem?_eq_none (by rw [L9];simpa using c)]
theorem ah7 {El:Nat->Type} (z:List Value):∀ n,(kc z n).map (aL.p (El:=El))=kc (z.map .p) n
 | 0 =>rfl
 | n+ 1 =>by simp [kc,ah7 z n]
def Ym (E:Env) (bl:List (aJ E.T.El)) (t n:Nat) (ps:List (Nat × aL E.T.El)):Option (ep E.T.El):=match qH E.P t,n,ps with
 | some (e,sz,_),0,[]=>match Nat.beq sz (E.T.ty e).size with
   | true=>some ⟨some (.r bl.length 0),bl++[.r e 0 0 []],[]⟩
   | false=>some ⟨some (.r bl.length 0),bl++[.k e sz 0 []],[]⟩
 | _,_,_=>none
def Np (E:Env) (bl:List (aJ E.T.El)) (t n:Nat) (ps:List (Nat × aL E.T.El)):D (ep E.T.El):=match qH E.P t with
 | some (e,sz,_)=>match AD E.P e,Nat.ble n 100000 && Nat.blt 0 n && Nat.ble (n*sz) 16777216 with
   | some z,true=>match sy (fun i=>some (i*sz,sz)) (kc (z.map .p) n) ps with
     | some cs=>match l2 bl cs with
       | (bl',jB)=>match Nat.beq sz (E.T.ty e).size,BR (E.T.e e) (Bb sz n jB) with
         | true,some l=>.ok ⟨some (.r bl'.length 0),bl'++[.r e 0 0 l],[]⟩
         | _,_=>.ok ⟨some (.r bl.length 0),bl++[.k e sz 0 cs],[]⟩
     | none=>.no
   | _,_=>.no
 | none=>.no
def Nn (E:Env) (bl:List (aJ E.T.El)) (t n:Nat) (ps:List (Nat × aL E.T.El)):D (ep E.T.El):=match Ym E bl t n ps with
 | some r=>.ok r
 | none=>Np E bl t n ps
def Tj:Operand->Operand->Bool
 | .tmp a,.tmp b=>Nat.beq a b
 | .const (.int .i64 m),.const (.int .i64 n)=>decide (m=n)
 | _,_=>false
theorem ayH {a:Act} {x y:Operand} (h:Tj x y=true):a.eval x=a.eval y:=by
 unfold Tj at h
 split at h
 · rw [Nat.eq_of_beq_eq_true h]
 · rw [of_decide_eq_true h]
 · cases h
def Nt (E:Env) (bl:List (aJ E.T.El)) (t:Nat) (x y:Operand) (u:aL E.T.El):D (ep E.T.El):=match qH E.P t,u with
 | some (e,sz,b1),.p (.int .i64 k)=>match Nat.beq sz (E.T.ty e).size,uy E e e,Tj x y with
   | true,some hT,true=>.op (Fk hT b1 k) fun l=>.ok ⟨some (.r bl.length 0),bl++[.r e 0 0 l],[]⟩
   | _,_,_=>.no
 | _,_=>.no
section
variable {E:Env} {W w w':World} {M0:List Nat} {X:Nat->Prop} {n:cN} {f:cE E.T.El} {bl:List (aJ E.T.El)} {ρ:List Value} {a:Act} {cur:List (Nat × Bool)}
theorem Ft (hm:Mem E.T W M0 X bl ρ w) {o:Oper} {e sz n:Nat} {vs:List Value} {B:aJ E.T.El} (IK:b4 (some B)= 0) (II:∀ h,bA B h=bB.ah h) (ap:vs.length=n*sz) (aF:n<=maxLen)
 (bS:∀ (bl':List (aJ E.T.El)) (ρ':List Value) (w':World),To X bl bl' ρ ρ' w w'->rowIs w' e sz (.slice (some ⟨w.heap.size,0,none⟩) n n) n vs->ig E.T (bm X bl' ρ' w') w' ρ' bl' B (.slice (some ⟨w.heap.size,0,none⟩) n n))
 (hy:bh E.P o a w (.slice (some ⟨w.heap.size,0,none⟩) n n) (w.alloc (.cells ⟨vs⟩ e))):gE E o a W M0 X bl ρ w ⟨some (.r bl.length 0),bl++[B],[]⟩:=by
 have af:br [] w (w.alloc (.cells ⟨vs⟩ e)):=br.alloc _ _ _
 have aB:rowIs (w.alloc (.cells ⟨vs⟩ e)) e sz (.slice (some ⟨w.heap.size,0,none⟩) n n) n vs:=
  .inl ⟨ap,.inr ⟨w.heap.size,n,⟨vs⟩,rfl,Nat.zero_le _,heap_alloc_new w _,Nat.le_refl _,aF,by simpa using ap,by rw [<-ap,List.take_length]⟩⟩
 have ag:∀ k ∈ bA B (.slice (some ⟨w.heap.size,0,none⟩) n n),w.heap.size<=k/\k <(w.alloc (.cells ⟨vs⟩ e)).heap.size:=fun k ai=>by
  rw [II] at ai
  have:k=w.heap.size:=by
   cases n with
   | zero=>simp [bB.ah] at ai
   | succ q=>simpa [bB.ah] using ai
  subst this
  simp
 have aM:=hm.w2 (B:=B) (h:=.slice (some ⟨w.heap.size,0,none⟩) n n) af ag
 refine ⟨_,ρ++[.slice (some ⟨w.heap.size,0,none⟩) n n],hm.push af ag (bS _ _ _ aM aB),aM,fun k ai _=>af.block k ai (by simp),_,hy,?_⟩
 simp only [aw]
 exact ⟨trivial,.slice (some ⟨w.heap.size,0,none⟩) n n,by rw [<-hm.len];simp,Nat.zero_le _,fun _=>rfl⟩
theorem aox (a5:du E) (hm:Mem E.T W M0 X bl ρ w) {o:Oper} {t n:Nat} {xs:List (Nat × Operand)} {ps:List (Nat × aL E.T.El)} {r:ep E.T.El} (h:(Np E bl t n ps).out r) (av:o.op= .buildSlice t n xs.toArray)
 (aH:o9 E.T (bm X bl ρ w) w ρ bl ps (xs.map fun p=>(p.1,a.eval p.2))):gE E o a W M0 X bl ρ w r:=by
 unfold Np at h
 split at h
 · rename_i e sz b1 he
   obtain ⟨hu,i0,eL,hi,mb,I,aa,au,gO,c0⟩:=vk he
   split at h
   · rename_i z aj ah
     simp only [Bool.and_eq_true] at ah
     have Ei:=Nat.le_of_ble_eq_true ah.1.1
     have Bx:=Nat.le_of_ble_eq_true ah.1.2
     have Zd:=Nat.le_of_ble_eq_true ah.2
     obtain ⟨Vq,EX,jI⟩:=G7 aj
     have EY:Vq=eL:=by
      have ak:=EX w
      simp only [zeroValue,typeInfo,Sem.run_bind] at ak
      simp [go_sem,hi,mb] at ak
      exact ak.symm
     subst EY
     have arP:z.length=sz:=by rw [<-au,jI];simp
     split at h
     · rename_i cs ag
       obtain ⟨os,f1,f2⟩:=NE (p5 (kc z n)) aH (by rw [ah7];exact ag)
       have PQ:os.length=n*sz:=by
        have ak:=f2.len
        have key:∀ {ps:List (Nat × aL E.T.El)} {c d:List (aL E.T.El)},sy (fun i=>some (i*sz,sz)) c ps=some d->d.length=c.length:=by
         intro ps
         induction ps with
         | nil=>intro c d bz;simp only [sy,Option.some.injEq] at bz;rw [bz]
         | cons p r bi=>
           intro c d bz
           obtain ⟨i,y⟩:=p
           simp only [sy] at bz
           split at bz
           · rename_i yL
             simp only [Bool.and_eq_true] at yL
             rw [bi bz,QL (Nat.le_of_ble_eq_true yL.2)]
           · cases bz
        rw [ak,key ag,L9,List.length_map,arP]
       have ZL:=ah5 Vq.cells n (by rw [au];exact gO)
       rw [au,jI] at ZL
       have na:bh E.P o a w (.slice (some ⟨w.heap.size,0,none⟩) n n) (w.alloc (.cells ⟨os⟩ e)):=by
        have bp: ¬ (n*sz > 2 ^ 24):=by omega
        have bI:n*sz≠ 0 :=by
         intro bz
         rcases Nat.mul_eq_zero.1 bz with q | q <;> omega
        simp only [bh,execOp,av,Instr.buildSlice,Sem.run_bind,Sem.run_pure,run_sizeOf hi,I,EX,Result.andThen_ok,run_underlying hu,List.map_toArray,if_neg bp,if_neg bI]
        have ZT:Vq.cells.size=sz:=au
        rw [jI] at ZT
        simp only [jI]
        rw [ZT,ZL,f1]
        rfl
       have EG:n<=maxLen:=by simp only [maxLen];omega
       split at h
       rename_i bl' jB oc
       obtain ⟨di,t1,v1⟩:=Io hm oc f2
       split at h
       · rename_i l aS ap
         have h:(⟨some (.r bl'.length 0),bl'++[.r e 0 0 l],[]⟩:ep E.T.El)=r:=h
         subst h
         have aS:=Nat.eq_of_beq_eq_true aS
         obtain ⟨cd,c7⟩:=Qh a5 n v1 PQ ap
         refine gE.first t1 (fun i hi=>by simp at hi) (Ft (e:=e) (sz:=sz) (n:=n) (vs:=os) di rfl (fun _=>rfl) PQ EG (fun u_ kd ew gw aB=>?_) na)
         subst aS
         exact ⟨_,_,os,by rw [c7],by rw [c7];exact aB,mu _ gw.F cd⟩
       · have h:(⟨some (.r bl.length 0),bl++[.k e sz 0 cs],[]⟩:ep E.T.El)=r:=h
         subst h
         exact Ft (e:=e) (sz:=sz) (n:=n) (vs:=os) hm rfl (fun _=>rfl) PQ EG (fun u_ kd ew gw aB=>⟨_,_,_,os,rfl,aB,gw.vs f2⟩) na
     · exact h.elim
   · exact h.elim
 · exact h.elim
theorem aoy (a5:du E) (hm:Mem E.T W M0 X bl ρ w) {o:Oper} {t n:Nat} {xs:List (Nat × Operand)} {ps:List (Nat × aL E.T.El)} {r:ep E.T.El} (h:(Nn E bl t n ps).out r) (av:o.op= .buildSlice t n xs.toArray)
 (aH:o9 E.T (bm X bl ρ w) w ρ bl ps (xs.map fun p=>(p.1,a.eval p.2))):gE E o a W M0 X bl ρ w r:=by
 unfold Nn at h
 split at h
 · rename_i h4 aP
   have h:h4=r:=h
   subst h
   unfold Ym at aP
   split at aP
   · rename_i e sz b1 he
     obtain ⟨hu,i0,eL,hi,mb,I,aa,au,gO,c0⟩:=vk he
     have ad:xs= []:=by
      cases xs with
      | nil=>rfl
      | cons p q=>simp [o9] at aH
     subst ad
     have hy:bh E.P o a w _ _:=aC0 (sz:=i0.size) hu (fun w=>run_sizeOf hi w) av
     split at aP
     · rename_i ah
       simp only [Option.some.injEq] at aP
       subst aP
       exact Ft (e:=e) (sz:=sz) (n:=0) (vs:=[]) hm rfl (fun _=>rfl) (by simp) (Nat.zero_le _) (fun u_ kd ew gw aB=>⟨_,_,[],rfl,by rw [<-Nat.eq_of_beq_eq_true ah];exact aB,rfl⟩) hy
     · simp only [Option.some.injEq] at aP
       subst aP
       exact Ft (e:=e) (sz:=sz) (n:=0) (vs:=[]) hm rfl (fun _=>rfl) (by simp) (Nat.zero_le _) (fun u_ kd ew gw aB=>⟨_,_,_,[],rfl,aB,rfl⟩) hy
   · cases aP
 · exact aox a5 hm h av aH
theorem acE {α:Type} {T:dh α} {F:Nat->Prop} {w:World} {z:List Value} {hT:α} (h:T.rd F w z hT):∀ n,dT T F w (kc z n) (List.replicate n hT)
 | 0 =>rfl
 | n+ 1 =>⟨z,kc z n,rfl,h,acE h n⟩
theorem aoD (a5:du E) (hm:Mem E.T W M0 X bl ρ w) {o:Oper} {t:Nat} {x y:Operand} {u:aL E.T.El} {r:ep E.T.El} (h:(Nt E bl t x y u).out r) (av:o.op= .makeSlice t x y) (ad:aw E.T (bm X bl ρ w) w ρ bl u (a.eval x)):gE E o a W M0 X bl ρ w r:=by
 unfold Nt at h
 split at h
 · rename_i e sz b1 k he
   obtain ⟨hu,i0,eL,hi,mb,I,aa,au,gO,c0⟩:=vk he
   split at h
   · rename_i hT aS aj ao
     obtain ⟨l,g8,h0⟩:=h
     have h0:(⟨some (.r bl.length 0),bl++[.r e 0 0 l],[]⟩:ep E.T.El)=r:=h0
     subst h0
     have aS:=Nat.eq_of_beq_eq_true aS
     obtain ⟨hM,bj,rfl⟩:=aui g8
     obtain ⟨m,rfl⟩:=Int.eq_ofNat_of_zero_le hM
     simp only [Int.toNat_natCast] at *
     have hle:m<=b1*m:=Nat.le_mul_of_pos_left m c0
     have EG:m<=maxLen:=by simp only [maxLen];omega
     simp only [aw] at ad
     have hy:a.eval y= .int .i64 (m:Int):=by rw [<-ayH ao,ad]
     have gP:(E.T.ty e).rd (bm X bl ρ w) w eL.cells.toList hT:=by
      unfold uy at aj
      split at aj
      · rename_i G8 jI
        split at aj
        · have ak:G8=eL:=by
           simp only [Dg,hi] at jI
           rw [mb] at jI
           exact (Option.some.inj jI).symm
          subst ak
          exact a5.tb.gQ _ _ _ aj _ _ ρ bl _ (p5 _)
        · cases aj
      · cases aj
     have yL:(i0.bytes:Int)*(m:Int)<= 281474976710656 :=by
      rw [aa]
      have mW:((b1*m:Nat):Int)<= 281474976710656 :=by omega
      rwa [Int.natCast_mul] at mW
     have g_:=run_make (P:=E.P) w t e i0 eL hu hi mb .i64 .i64 (m:Int) (m:Int) (by omega) (Int.le_refl _) yL (by simp only [maxLen] at EG;omega)
     simp only [Int.toNat_natCast] at g_
     have ap3:madeCells eL.cells (m*sz)=⟨kc eL.cells.toList m⟩:=by
      have:=ah5 eL.cells m (by rw [au];exact gO)
      rw [au] at this
      simp only [madeCells,au]
      exact this
     rw [I,ap3] at g_
     have na:bh E.P o a w (.slice (some ⟨w.heap.size,0,none⟩) m m) (w.alloc (.cells ⟨kc eL.cells.toList m⟩ e)):=by
      simp only [bh,execOp,av,ad,hy,Sem.run_bind,g_,Result.andThen_ok,Sem.run_pure]
     refine Ft (e:=e) (sz:=sz) (n:=m) (vs:=kc eL.cells.toList m) hm rfl (fun _=>rfl) (by rw [L9];simp [au]) EG (fun u_ kd ew gw aB=>?_) na
     subst aS
     exact ⟨_,_,_,by rw [List.length_replicate],by rw [List.length_replicate];exact aB,acE ((E.T.ty e).law gw.F gP) m⟩
   · exact h.elim
 · exact h.elim
end
end bB
namespace bB
open Go Go.RowKit ax J
def adF (P:Program) (t:Nat):Bool:=match P.underlying t with
 | some (.int .u8)=>true
 | _=>false
def Ny (E:Env) (bl:List (aJ E.T.El)) (s d:Nat) (u:aL E.T.El):D (ep E.T.El):=match E.P.underlying s,E.P.underlying d,u with
 | some .string,some (.slice e),.p (.string ⟨⟨l⟩⟩)=>match Nat.beq e E.ko,adF E.P E.ko with
   | true,true=>.op (bytesOf l) fun r=>.ok ⟨some (.s E.ko (E.HB r)),bl,[]⟩
   | _,_=>.no
 | _,_,_=>.no
section
variable {E:Env} {W w w':World} {M0:List Nat} {X:Nat->Prop} {bl:List (aJ E.T.El)} {ρ:List Value} {a:Act}
theorem aoI (a5:du E) (hm:Mem E.T W M0 X bl ρ w) {o:Oper} {s d:Nat} {x:Operand} {u:aL E.T.El} {r:ep E.T.El} (aj:(Ny E bl s d u).out r) (av:o.op= .convert s d x) (ad:aw E.T (bm X bl ρ w) w ρ bl u (a.eval x)):gE E o a W M0 X bl ρ w r:=by
 unfold Ny at aj
 split at aj
 · rename_i e l aM sX
   split at aj
   · rename_i ah hu
     have ah:=Nat.eq_of_beq_eq_true ah
     subst ah
     have he:E.P.underlying E.ko=some (.int .u8):=by
      unfold adF at hu
      split at hu
      · assumption
      · cases hu
     obtain ⟨q,I,aa⟩:=aj
     have aa:(⟨some (.s E.ko (E.HB q)),bl,[]⟩:ep E.T.El)=r:=aa
     subst aa
     simp only [aw] at ad
     unfold bytesOf at I
     split at I
     · rename_i hle
       simp only [Option.some.injEq] at I
       subst I
       have g_:=run_bytes_of_string (P:=E.P) w s d E.ko ⟨⟨l⟩⟩ aM sX he
       have dI:(⟨⟨l⟩⟩:ByteArray).size=l.length:=rfl
       have hc:=grownCap_ge w l.length 0 E.ko
       have qX:=grownCap_le_maxLen w l.length 0 E.ko (by simp only [maxLen];omega)
       obtain ⟨B,bS⟩:∃ B,B=bytesRow ⟨⟨l⟩⟩ (grownCap w l.length 0 E.ko):=⟨_,rfl⟩
       obtain ⟨gu,l8⟩:∃ gu,gu=grownCap w l.length 0 E.ko:=⟨_,rfl⟩
       rw [dI,<-bS,<-l8] at g_
       rw [<-l8] at hc qX
       have hy:bh E.P o a w (.slice (some ⟨w.heap.size,0,none⟩) l.length gu) (w.drew.alloc (.cells B E.ko (B.size,B.size+ 1))):=by
        simp only [bh,execOp,av,ad,Sem.run_bind,g_,Result.andThen_ok]
        rfl
       have jF:br [] w (w.drew.alloc (.cells B E.ko (B.size,B.size+ 1))):=(br.drew [] w).trans (br.alloc [] _ _) (by simp)
       refine ⟨_,ρ,hm.fg jF,Mem.CG jF,fun k ai _=>jF.block k ai (by simp),_,hy,?_⟩
       simp only [aw]
       refine ⟨_,gu,by rw [a5.Wm],by rw [a5.Wm];exact hc,qX,(fun h=>by cases h),fun _=>⟨rfl,⟨?_,?_,by show w.heap.size <_;simp⟩,_,a5.al1 _ _ _ _ (acC l),fun j u az=>?_⟩⟩
       · intro ai
         have I:w.heap.size <W.heap.size:=(hm.hC _ ai).1
         have aa:=hm.b_.size
         omega
       · intro ai
         have I:w.heap.size <w.heap.size:=(hm.lt _ ai).1
         omega
       · rw [List.getElem?_map,Option.map_eq_some_iff] at az
         obtain ⟨b,ah,rfl⟩:=az
         obtain ⟨jk,fN⟩:=List.getElem?_eq_some_iff.1 ah
         have:=bytesRow_at ⟨⟨l⟩⟩ (grownCap w l.length 0 E.ko) j (by simpa using jk)
         rw [<-bS] at this
         show World.cell? _ ⟨w.heap.size,0 +j,none⟩=_
         simp only [World.cell?,World.alloc]
         rw [show (w.drew.heap.push _)[w.heap.size]? =some _ from Array.getElem?_push_size (xs:=w.heap)]
         simp only [Nat.zero_add,this]
         simp [fN]
     · cases I
   · exact aj.elim
 · exact aj.elim
end
end bB
namespace bB
open Go Go.RowKit ax J
def Nf (E:Env) (bl:List (aJ E.T.El)) (t fC:Nat) (u v:aL E.T.El):D (ep E.T.El):=match qH E.P t,jJ (E.P.underlying fC),u,v with
 | some (e,sz,b1),some (.i .i64),.p (.slice none 0 0),.p (.int .i64 k)=>match Nat.beq sz 1 && Nat.beq (E.T.ty e).size 1,uy E e e with
   | true,some hT=>.op (DC hT b1 k) fun l=>.ok ⟨some (.r bl.length 0),bl++[.r e 0 0 l],[]⟩
   | _,_=>.no
 | _,_,_,_=>.no
section
variable {E:Env} {W w w':World} {M0:List Nat} {X:Nat->Prop} {n:cN} {f:cE E.T.El} {bl:List (aJ E.T.El)} {ρ:List Value} {a:Act} {cur:List (Nat × Bool)}
theorem aon (a5:du E) (hm:Mem E.T W M0 X bl ρ w) {o:Oper} {t fC:Nat} {x y:Operand} {u v:aL E.T.El} {r:ep E.T.El} (h:(Nf E bl t fC u v).out r) (av:o.op= .call { callee:=.builtin .append,args:=#[x,y],argTypes:=#[t,fC] })
 (ad:aw E.T (bm X bl ρ w) w ρ bl u (a.eval x)) (af:aw E.T (bm X bl ρ w) w ρ bl v (a.eval y)):gE E o a W M0 X bl ρ w r:=by
 unfold Nf at h
 split at h
 · rename_i e sz b1 k he ai
   obtain ⟨hu,i0,eL,hi,mb,I,aa,au,gO,c0⟩:=vk he
   have apD:=s7 ai
   split at h
   · rename_i hT ah aj
     simp only [Bool.and_eq_true] at ah
     have ao:=Nat.eq_of_beq_eq_true ah.1
     have iU:=Nat.eq_of_beq_eq_true ah.2
     subst ao
     obtain ⟨l,g8,h0⟩:=h
     have h0:(⟨some (.r bl.length 0),bl++[.r e 0 0 l],[]⟩:ep E.T.El)=r:=h0
     subst h0
     obtain ⟨hM,bj,rfl⟩:=alX g8
     obtain ⟨m,rfl⟩:=Int.eq_ofNat_of_zero_le (Int.le_of_lt hM)
     simp only [Int.toNat_natCast] at *
     have hle:m<=b1*m:=Nat.le_mul_of_pos_left m c0
     simp only [aw] at ad af
     have gP:(E.T.ty e).rd (bm X bl ρ w) w eL.cells.toList hT:=by
      unfold uy at aj
      split at aj
      · rename_i G8 jI
        split at aj
        · have ak:G8=eL:=by
           simp only [Dg,hi] at jI
           rw [mb] at jI
           exact (Option.some.inj jI).symm
          subst ak
          exact a5.tb.gQ _ _ _ aj _ _ ρ bl _ (p5 _)
        · cases aj
      · cases aj
     obtain ⟨gu,l8⟩:∃ gu,eL.cells= #[gu]:=by
      revert au
      generalize eL.cells=cs
      obtain ⟨l⟩:=cs
      intro au
      cases l with
      | nil=>simp at au
      | cons c r=>cases r with
        | nil=>exact ⟨c,rfl⟩
        | cons _ _=>simp at au
     have g_:=Lib.run_append_nil_zeros (P:=E.P) w t fC o.type e i0 eL .i64 .i64 hu apD hi mb m (by omega) (by omega) (by omega) (by rw [aa,Nat.mul_comm];omega)
     let cap:=grownCap w m 0 e
     have IF:m<=cap:=grownCap_ge w m 0 e
     have Ek:cap<=maxLen:=grownCap_le_maxLen w m 0 e (by simp only [maxLen];omega)
     have Qa:∀ q,(Builtin.zeroCells eL.cells q).toList=List.replicate q gu:=by
      intro q
      rw [l8]
      apply List.ext_getElem
      · simp [Builtin.zeroCells]
      · intro j I aa
        simp [Builtin.zeroCells,Nat.mod_one]
     let cur:=Builtin.zeroCells eL.cells m++Builtin.zeroCells eL.cells (cap - m)
     have hcs:cur.size=cap:=by simp only [cur,Array.size_append,size_zeroCells,l8];simp;omega
     have na:bh E.P o a w (.slice (some ⟨w.heap.size,0,none⟩) m cap) (w.drew.alloc (.cells cur e)):=by
      simp only [bh,execOp,av,resolve,invoke,builtin,Sem.run_bind,Sem.run_pure,Result.andThen_ok,List.map_toArray,List.map_cons,List.map_nil,ad,af,g_,cap,cur]
     have jF:br [] w (w.drew.alloc (.cells cur e)):=(br.drew [] w).trans (br.alloc [] w.drew (.cells cur e)) (by simp)
     have yQ:w.drew.heap.size=w.heap.size:=rfl
     have od:rowIs (w.drew.alloc (.cells cur e)) e 1 (.slice (some ⟨w.heap.size,0,none⟩) m cap) m (List.replicate m gu):=by
      refine .inl ⟨by simp,.inr ⟨w.heap.size,cap,cur,rfl,Nat.zero_le _,?_,IF,Ek,by simp [hcs],?_⟩⟩
      · rw [<-yQ];exact heap_alloc_new w.drew _
      · simp only [cur,Array.toList_append,Qa,Nat.mul_one]
        rw [List.take_append_of_le_length (by simp),List.take_of_length_le (by simp)]
     have qU:cap=(cap - 1)+ 1 :=by omega
     have ag:∀ q ∈ bA (aJ.r (El:=E.T.El) e 0 0 (List.replicate m hT)) (.slice (some ⟨w.heap.size,0,none⟩) m cap),w.heap.size<=q/\q <(w.drew.alloc (.cells cur e)).heap.size:=fun q aS=>by
      rw [qU] at aS
      have:q=w.heap.size:=by simpa [bA,bB.ah] using aS
      subst this
      simp
     have aM:=hm.w2 (B:=aJ.r e 0 0 (List.replicate m hT)) (h:=.slice (some ⟨w.heap.size,0,none⟩) m cap) jF ag
     have ard:∀ (q:Nat) (F:Nat->Prop) (w':World),(E.T.ty e).rd F w' [gu] hT->dT (E.T.ty e) F w' (List.replicate q gu) (List.replicate q hT):=fun q F w' h=>by
      induction q with
      | zero=>rfl
      | succ q bi=>exact ⟨[gu],List.replicate q gu,rfl,h,bi⟩
     refine ⟨_,ρ++[.slice (some ⟨w.heap.size,0,none⟩) m cap],hm.push jF ag ⟨some ⟨w.heap.size,0,none⟩,cap,List.replicate m gu,by rw [List.length_replicate],by rw [iU,List.length_replicate];exact od,ard m _ _ ?_⟩,aM,fun k ai _=>jF.block k ai (by simp),_,na,?_⟩
     · have:=(E.T.ty e).law aM.F gP
       rwa [l8] at this
     · simp only [aw]
       exact ⟨trivial,.slice (some ⟨w.heap.size,0,none⟩) m cap,by rw [<-hm.len];simp,Nat.zero_le _,fun _=>rfl⟩
   · exact h.elim
 · exact h.elim
end
end bB
namespace J
def fp {α:Type} (l:List α) (p:Nat) (ds:List α):List α:=l.take p++ds++l.drop (p+ds.length)
theorem Cf {α:Type} {l:List α} {p:Nat} {ds:List α} (h:p+ds.length<=l.length):(fp l p ds).length=l.length:=by
 simp [fp];omega
end J
namespace bB
open Go Go.RowKit ax J
theorem Yq (b:Nat):∀ (vs:List Value) (o:Nat) (w:World),br [b] w (w.setCells b o vs)
 | [],_,w=>br.refl _ w
 | v::r,o,w=>(br.set w ⟨b,o,none⟩ v).trans (Yq b r (o+ 1) _) (fun x ad=>.inl ad)
theorem ac4 (b:Nat) (e:TypeId) (Iq:Nat × Nat):∀ (vs:List Value) (o:Nat) (w:World) (cur:List Value),w.heap[b]? =some (.cells cur.toArray e Iq)->o+vs.length<=cur.length ->
 (w.setCells b o vs).heap[b]? =some (.cells (fp cur o vs).toArray e Iq)
 | [],o,w,cur,h,_=>by simpa [World.setCells,fp] using h
 | v::r,o,w,cur,h,ap=>by
   simp only [List.length_cons] at ap
   have ah:b <w.heap.size:=by
    rcases Nat.lt_or_ge b w.heap.size with h' | h'
    · exact h'
    · rw [Array.getElem?_eq_none h'] at h;cases h
   have I:(w.setCell ⟨b,o,none⟩ v).heap[b]? =some (.cells (cur.set o v).toArray e Iq):=by
    simp only [World.setCell,Array.getElem?_modify,if_pos,h,Option.map_some]
    simp
   have:=ac4 b e Iq r (o+ 1) _ (cur.set o v) I (by simp;omega)
   show ((w.setCell ⟨b,o,none⟩ v).setCells b (o+ 1) r).heap[b]? =_
   rw [this]
   have ES:cur.set o v=cur.take o++v::cur.drop (o+ 1):=by rw [List.set_eq_take_append_cons_drop,if_pos (by omega)]
   have aM:(cur.take o).length=o:=by rw [List.length_take];omega
   have ak:(cur.set o v).take (o+ 1)=cur.take o++[v]:=by
    rw [ES,List.take_append,aM,List.take_of_length_le (by rw [aM];omega)]
    simp
   have al:(cur.set o v).drop (o+ 1 +r.length)=cur.drop (o+(v::r).length):=by
    rw [List.drop_set_of_lt (by omega)]
    congr 1
    simp;omega
   simp only [fp]
   rw [ak,al]
   simp
theorem avo {α:Type} {l ds:List α} {p n:Nat} (h:p+ds.length<=n) (aF:n<=l.length):(fp l p ds).take n=fp (l.take n) p ds:=Ty h aF
structure Mn (El:Nat->Type) where
 i:Nat
 t:Nat
 g:Nat
 k:Nat
 l:List (El t)
 lo:Int
 hi:Int
def J8 {El:Nat->Type} (bl:List (aJ El)):aL El->Option (Mn El)
 | .v i g lo hi=>match nth bl i with
   | some (.r t bE k l)=>match Nat.beq g bE with
     | true=>some ⟨i,t,bE,k,l,lo,hi⟩
     | false=>none
   | _=>none
 | .r i g=>match nth bl i with
   | some (.r t bE k l)=>match Nat.beq g bE with
     | true=>some ⟨i,t,bE,k,l,0,(l.length:Int)⟩
     | false=>none
   | _=>none
 | _=>none
def Nj (E:Env) (bl:List (aJ E.T.El)) (t:Nat) (u v:aL E.T.El):D (ep E.T.El):=match qH E.P t,J8 bl u with
 | some (_,n,_),some p=>match Nat.beq n 1 && Nat.beq (E.T.ty p.t).size 1,Gm E bl p.t v with
   | true,some m=>.op (tL (decide (0 <p.l.length))) fun _=>.ok ⟨some (.p (.int .i64 ((m.take (p.hi - p.lo).toNat).length:Int))),bl.set p.i (.r p.t p.g (p.k+ 1) (fp p.l p.lo.toNat (m.take (p.hi - p.lo).toNat))),[p.i]⟩
   | _,_=>.no
 | _,_=>.no
def Ni (E:Env) (bl:List (aJ E.T.El)) (t:Nat) (u:aL E.T.El):D (ep E.T.El):=match qH E.P t,J8 bl u with
 | some (e,sz,_),some p=>match Nat.beq sz 1 && Nat.beq (E.T.ty p.t).size 1 && !(E.T.e p.t).agg,uy E p.t e with
   | true,some hT=>.op (tL (decide (p.lo <p.hi))) fun _=>.ok ⟨some (.u []),bl.set p.i (.r p.t p.g (p.k+ 1) (fp p.l p.lo.toNat (List.replicate (p.hi - p.lo).toNat hT))),[p.i]⟩
   | _,_=>.no
 | _,_=>.no
section
variable {E:Env} {W w w':World} {M0:List Nat} {X:Nat->Prop} {n:cN} {f:cE E.T.El} {bl:List (aJ E.T.El)} {ρ:List Value} {a:Act} {cur:List (Nat × Bool)}
theorem abW (hm:Mem E.T W M0 X bl ρ w) {u:aL E.T.El} {v:Value} {p:Mn E.T.El} (h:J8 bl u=some p) (I:(E.T.ty p.t).size= 1) (af:aw E.T (bm X bl ρ w) w ρ bl u v) :
 bl[p.i]? =some (.r p.t p.g p.k p.l)/\ 0 <=p.lo/\p.lo<=p.hi/\p.hi<=p.l.length/\ ∃ A c B bF,ρ[p.i]? =some (.slice A p.l.length c)/\v= .slice B (p.hi.toNat - p.lo.toNat) bF/\(p.lo <p.hi->B=A.map (·.add p.lo.toNat)):=by
 unfold J8 at h
 split at h
 · rename_i i g lo hi
   split at h
   · rename_i t bE k l cP
     rw [cY] at cP
     split at h
     · rename_i ah
       simp only [Option.some.injEq] at h
       subst h
       simp only [aw] at af
       obtain ⟨_,aN,bp,bI,b2⟩:=af
       rw [cP] at b2
       obtain ⟨A,n,c,B,ak,al,aT,bU,dn,gM,kp⟩:=b2 (Nat.eq_of_beq_eq_true ah)
       obtain ⟨cR,bF,xs,f1,f2,f3⟩:=hm.ok _ _ _ cP bp
       rw [ak] at f1
       simp only [Value.slice.injEq] at f1
       obtain ⟨rfl,rfl,rfl⟩:=f1
       refine ⟨cP,al,aT,bU,A,c,B,_,ak ▸ bp,dn,fun bx=>?_⟩
       have:=kp bx
       simp only [ix,I,Nat.mul_one] at this
       exact this
     · cases h
   · cases h
 · rename_i i g
   split at h
   · rename_i t bE k l cP
     rw [cY] at cP
     split at h
     · rename_i ah
       simp only [Option.some.injEq] at h
       subst h
       simp only [aw] at af
       obtain ⟨_,aN,bp,bI,b2⟩:=af
       rw [cP] at b2
       have e:=b2 (Nat.eq_of_beq_eq_true ah)
       subst e
       obtain ⟨cR,bF,xs,f1,f2,f3⟩:=hm.ok _ _ _ cP bp
       refine ⟨cP,Int.le_refl _,by simp,Int.le_refl _,cR,bF,cR,bF,f1 ▸ bp,by simpa using f1,fun _=>?_⟩
       cases cR with
       | none=>rfl
       | some ej=>
         simp [Addr.add]
     · cases h
   · cases h
 · cases h
theorem acP (hm:Mem E.T W M0 X bl ρ w) {o:Oper} {p:Mn E.T.El} {A:Option Addr} {c:Nat} (hi:bl[p.i]? =some (.r p.t p.g p.k p.l)) (bz:ρ[p.i]? =some (.slice A p.l.length c)) (I:(E.T.ty p.t).size= 1) {q:Nat} {ds:List (E.T.El p.t)} {vs:List Value} (aB:dT (E.T.ty p.t) (bm X bl ρ w) w vs ds) (bx:0 <p.l.length) (hle:q+ds.length<=p.l.length) :
 ∃ dY,A=some ⟨dY,0,none⟩/\vs.length=ds.length/\(∀ j,j <p.l.length->(w.cell? ⟨dY,j,none⟩).isSome=true)/\(∀ j,w.frozen? ⟨dY,j,none⟩=false) /\
   ∀ {r:Value} {y:aL E.T.El},(∀ (F:Nat->Prop) (w:World) (ρ:List Value) (bl:List (aJ E.T.El)),aw E.T F w ρ bl y r)->bh E.P o a w r (w.setCells dY q vs)->gE E o a W M0 X bl ρ w ⟨some y,bl.set p.i (.r p.t p.g (p.k+ 1) (fp p.l q ds)),[p.i]⟩:=by
 obtain ⟨cR,bF,xs,f1,f2,f3⟩:=hm.ok _ _ _ hi bz
 simp only [Value.slice.injEq,true_and] at f1
 obtain ⟨rfl,rfl⟩:=f1
 obtain ⟨dY,rfl,sG,hc,jX⟩:=rH bx f2
 have sZ:=tR _ aB
 rw [I,Nat.mul_one] at sZ
 have oh:=tR _ f3
 rw [I,Nat.mul_one] at oh
 have jZ:=f2.own bx
 rw [I] at jZ
 rcases jZ.2 with ⟨_,aP⟩ | ⟨g',cap,cur,ak,al,aT,bU,dn,gM,kp⟩
 · omega
 simp only [Value.slice.injEq,Option.some.injEq,Addr.mk.injEq,and_true,true_and] at ak
 obtain ⟨rfl,rfl⟩:=ak
 rw [Nat.mul_one] at gM kp
 have Pd:(⟨cur.toList⟩:Array Value)=cur:=by simp
 refine ⟨dY,rfl,sZ,fun j az=>?_,fun j=>by simp [World.frozen?,aT],fun {r y} hy na=>?_⟩
 · have:j <cur.size:=by omega
   simp [World.cell?,aT,this]
 have aI:bA (aJ.r p.t p.g p.k p.l) (.slice (some ⟨dY,0,none⟩) p.l.length c)= [dY]:=jX _
 have jF:br (bA (aJ.r p.t p.g p.k p.l) (.slice (some ⟨dY,0,none⟩) p.l.length c)) w (w.setCells dY q vs):=by rw [aI];exact Yq dY vs q w
 have aqq:=ac4 dY p.t (0,0) vs q w cur.toList (by rw [<-Pd] at aT;exact aT) (by simp;omega)
 have od:rowIs (w.setCells dY q vs) p.t 1 (.slice (some ⟨dY,0,none⟩) p.l.length c) p.l.length (fp xs q vs):=by
  refine .inl ⟨by rw [Cf (by omega),oh,Nat.mul_one],.inr ⟨dY,c,_,rfl,al,aqq,bU,dn,?_,?_⟩⟩
  · have:=Cf (l:=cur.toList) (p:=q) (ds:=vs) (by simp;omega)
    simpa [gM] using this
  · simp only [Nat.mul_one]
    rw [avo (by omega) (by simp;omega),kp]
 have ag:∀ k ∈ bA (aJ.r p.t p.g (p.k+ 1) (fp p.l q ds)) (.slice (some ⟨dY,0,none⟩) p.l.length c),k ∈ bA (aJ.r p.t p.g p.k p.l) (.slice (some ⟨dY,0,none⟩) p.l.length c)\/(w.heap.size<=k/\k <(w.setCells dY q vs).heap.size):=fun k ai=>.inl ai
 have yT:∀ {h:Value},(¬ mg h->h=h)/\b4 (some (aJ.r p.t p.g p.k p.l))<=b4 (some (aJ.r p.t p.g (p.k+ 1) (fp p.l q ds)))/\(b4 (some (aJ.r p.t p.g (p.k+ 1) (fp p.l q ds)))=b4 (some (aJ.r p.t p.g p.k p.l))->h=h/\ix E.T (some (aJ.r p.t p.g (p.k+ 1) (fp p.l q ds)))=ix E.T (some (aJ.r p.t p.g p.k p.l))/\gA (some (aJ.r p.t p.g p.k p.l))<=gA (some (aJ.r p.t p.g (p.k+ 1) (fp p.l q ds)))/\(gA (some (aJ.r p.t p.g (p.k+ 1) (fp p.l q ds)))=gA (some (aJ.r p.t p.g p.k p.l))->p6 (some (aJ.r p.t p.g (p.k+ 1) (fp p.l q ds)))=p6 (some (aJ.r p.t p.g p.k p.l)))):=fun {h}=>
  ⟨fun _=>rfl,Nat.le_refl _,fun _=>⟨rfl,rfl,Nat.le_succ _,fun e=>by simp [gA] at e⟩⟩
 have aM:=hm.CH (B':=aJ.r p.t p.g (p.k+ 1) (fp p.l q ds)) (h':=.slice (some ⟨dY,0,none⟩) p.l.length c) hi bz jF ag yT
 have ao:=CA bz
 have gP:dT (E.T.ty p.t) (bm X (bl.set p.i (.r p.t p.g (p.k+ 1) (fp p.l q ds))) ρ (w.setCells dY q vs)) (w.setCells dY q vs) (fp xs q vs) (fp p.l q ds):=by
  rw [ao] at aM
  have cd:=mu _ aM.F f3
  have c7:=mu _ aM.F aB
  have c1:=rF 0 q cd
  have c2:=rF (q+ds.length) p.l.length cd
  rw [I] at c1 c2
  simp only [Nat.mul_one,Nat.zero_mul,List.drop_zero] at c1 c2
  rw [List.take_of_length_le (by omega),List.take_of_length_le (by omega)] at c2
  have:=FU _ c2 (FU _ c7 c1)
  unfold fp
  rw [sZ]
  exact this
 have ea:=hm.eb (B':=aJ.r p.t p.g (p.k+ 1) (fp p.l q ds)) (h':=.slice (some ⟨dY,0,none⟩) p.l.length c) hi bz jF ag aM (by
  rw [ao]
  exact ⟨some ⟨dY,0,none⟩,c,fp xs q vs,by rw [Cf hle],by rw [I,Cf hle];exact od,gP⟩)
 rw [ao] at ea aM
 exact ⟨_,ρ,ea,aM,fun k ai cQ=>jF.block k ai (cQ p.i (by simp) _ _ hi bz),r,na,hy _ _ _ _⟩
theorem aos (a5:du E) (hm:Mem E.T W M0 X bl ρ w) {o:Oper} {t:Nat} {x y:Operand} {u v:aL E.T.El} {r:ep E.T.El} (h:(Nj E bl t u v).out r) (av:o.op= .call { callee:=.builtin .copy,args:=#[x,y],argTypes:=#[t,t] })
 (ad:aw E.T (bm X bl ρ w) w ρ bl u (a.eval x)) (hy:aw E.T (bm X bl ρ w) w ρ bl v (a.eval y)):gE E o a W M0 X bl ρ w r:=by
 unfold Nj at h
 split at h
 · rename_i e n b1 p he aH
   obtain ⟨hu,i0,eL,jH,mb,fO,iU,ZP,gO,arl⟩:=vk he
   split at h
   · rename_i m ah PW
     simp only [Bool.and_eq_true] at ah
     have aF:=Nat.eq_of_beq_eq_true ah.1
     have I:=Nat.eq_of_beq_eq_true ah.2
     subst aF
     obtain ⟨_,k9,h⟩:=h
     have k9:0 <p.l.length:=of_decide_eq_true (Rn k9)
     have h:(⟨some (.p (.int .i64 ((m.take (p.hi - p.lo).toNat).length:Int))),bl.set p.i (.r p.t p.g (p.k+ 1) (fp p.l p.lo.toNat (m.take (p.hi - p.lo).toNat))),[p.i]⟩:ep E.T.El)=r:=h
     subst h
     obtain ⟨hi,l1,cp,jp,A,c,B,bF,bz,ak,al⟩:=abW hm aH I ad
     obtain ⟨c8,c2,news,s1,s2,F4⟩:=adk a5 hm PW hy
     have EL:=tR _ F4
     rw [I,Nat.mul_one] at EL
     have ai:(m.take (p.hi - p.lo).toNat).length=Nat.min m.length (p.hi.toNat - p.lo.toNat):=by
      rw [List.length_take,Nat.min_comm]
      congr 1
      omega
     have qY:=rF 0 (p.hi - p.lo).toNat F4
     rw [I] at qY
     simp only [Nat.mul_one,Nat.zero_mul,List.drop_zero] at qY
     have IW:(E.P.info? e).map (·.size)=some 1 :=by rw [jH];simp [fO]
     obtain ⟨dY,rfl,sZ,im,Pl,fin⟩:=acP (o:=o) (a:=a) (q:=p.lo.toNat) hm hi bz I qY k9 (by rw [ai];have:=Nat.min_le_right m.length (p.hi.toNat - p.lo.toNat);have e:Nat.min m.length (p.hi.toNat - p.lo.toNat)=min m.length (p.hi.toNat - p.lo.toNat):=rfl;omega)
     refine fin (r:=.int .i64 ((m.take (p.hi - p.lo).toNat).length:Int)) (fun F w ρ bl=>by simp only [aw]) ?_
     rcases Nat.eq_zero_or_pos (m.take (p.hi - p.lo).toNat).length with aP | aP
     · have g_:=run_copy_none (P:=E.P) w t t o.type e B c8 (p.hi.toNat - p.lo.toNat) bF m.length c2 hu IW (by rw [<-ai];exact aP)
       have cb:news.take (p.hi - p.lo).toNat= []:=List.eq_nil_of_length_eq_zero (sZ.trans aP)
       rw [cb,aP]
       simp only [bh,execOp,av,resolve,invoke,builtin,Sem.run_bind,Sem.run_pure,Result.andThen_ok,List.map_toArray,List.map_cons,List.map_nil,ak,s1,g_]
       rfl
     · have bx:p.lo <p.hi:=by
        rw [ai] at aP
        have e:Nat.min m.length (p.hi.toNat - p.lo.toNat)=min m.length (p.hi.toNat - p.lo.toNat):=rfl
        omega
       rcases s2 with ⟨bp,_⟩ | ⟨ej,rfl,bI,b2,gj⟩
       · rw [ai,bp] at aP
         have e:Nat.min 0 (p.hi.toNat - p.lo.toNat)=min 0 (p.hi.toNat - p.lo.toNat):=rfl
         omega
       · have bS:=al bx
         have bS:B=some ⟨dY,p.lo.toNat,none⟩:=by rw [bS];simp [Addr.add];try omega
         subst bS
         have g_:=run_copy_cells (P:=E.P) w t t o.type e dY p.lo.toNat (p.hi.toNat - p.lo.toNat) bF ej m.length c2 (news.take (p.hi - p.lo).toNat) hu IW (by rw [sZ,ai]) (fun j u az=>by
          rw [List.getElem?_take] at az
          split at az
          · exact b2 j u az
          · cases az) (fun j az=>im _ (by rw [sZ,ai] at az;have e:Nat.min m.length (p.hi.toNat - p.lo.toNat)=min m.length (p.hi.toNat - p.lo.toNat):=rfl;omega)) (fun j _=>Pl _) (fun v af=>gj v (List.mem_of_mem_take af))
         rw [<-sZ]
         simp only [bh,execOp,av,resolve,invoke,builtin,Sem.run_bind,Sem.run_pure,Result.andThen_ok,List.map_toArray,List.map_cons,List.map_nil,ak,s1,g_]
         rfl
   · exact h.elim
 · exact h.elim
theorem aor (a5:du E) (hm:Mem E.T W M0 X bl ρ w) {o:Oper} {t:Nat} {x:Operand} {u:aL E.T.El} {r:ep E.T.El} (h:(Ni E bl t u).out r) (av:o.op= .call { callee:=.builtin .clear,args:=#[x],argTypes:=#[t] })
 (ad:aw E.T (bm X bl ρ w) w ρ bl u (a.eval x)):gE E o a W M0 X bl ρ w r:=by
 unfold Ni at h
 split at h
 · rename_i e n b1 p he aH
   obtain ⟨hu,i0,eL,jH,mb,fO,iU,ZP,gO,arl⟩:=vk he
   split at h
   · rename_i hT ah aj
     simp only [Bool.and_eq_true] at ah
     have sE:(E.T.e p.t).agg=false:=by simpa using ah.2
     have aF:=Nat.eq_of_beq_eq_true ah.1.1
     have I:=Nat.eq_of_beq_eq_true ah.1.2
     subst aF
     obtain ⟨_,k9,h⟩:=h
     have bx:p.lo <p.hi:=of_decide_eq_true (Rn k9)
     have h:(⟨some (.u []),bl.set p.i (.r p.t p.g (p.k+ 1) (fp p.l p.lo.toNat (List.replicate (p.hi - p.lo).toNat hT))),[p.i]⟩:ep E.T.El)=r:=h
     subst h
     obtain ⟨hi,l1,cp,jp,A,c,B,bF,bz,ak,al⟩:=abW hm aH I ad
     obtain ⟨gu,l8⟩:∃ gu,eL.cells= #[gu]:=by
      revert ZP
      generalize eL.cells=cs
      obtain ⟨l⟩:=cs
      intro au
      cases l with
      | nil=>simp at au
      | cons c r=>cases r with
        | nil=>exact ⟨c,rfl⟩
        | cons _ _=>simp at au
     have gP:(E.T.ty p.t).rd (bm X bl ρ w) w [gu] hT/\eL=gu:=by
      unfold uy at aj
      split at aj
      · rename_i G8 jI
        split at aj
        · rename_i arQ
          have ak:G8=eL:=by
           simp only [Dg,jH] at jI
           rw [mb] at jI
           exact (Option.some.inj jI).symm
          subst ak
          have:=a5.tb.gQ _ _ _ aj (bm X bl ρ w) w ρ bl _ (p5 _)
          rw [l8] at this
          have Y6:=ah4 arQ
          rw [sE,l8] at Y6
          exact ⟨this,Y6⟩
        · cases aj
      · cases aj
     obtain ⟨gP,EY⟩:=gP
     have yZ:gu.oneCell'=true:=(E.T.ty p.t).one gP gu (by simp)
     have iR:dT (E.T.ty p.t) (bm X bl ρ w) w (List.replicate (p.hi - p.lo).toNat gu) (List.replicate (p.hi - p.lo).toNat hT):=by
      generalize (p.hi - p.lo).toNat=q
      induction q with
      | zero=>rfl
      | succ q bi=>exact ⟨[gu],List.replicate q gu,rfl,gP,bi⟩
     obtain ⟨dY,rfl,sZ,im,Pl,fin⟩:=acP (o:=o) (a:=a) (q:=p.lo.toNat) hm hi bz I iR (by omega) (by rw [List.length_replicate];omega)
     refine fin (fun F w ρ bl=>by simp only [aw];exact ⟨[],rfl,by simp [a4]⟩) ?_
     have bS:=al bx
     have bS:B=some ⟨dY,p.lo.toNat,none⟩:=by rw [bS];simp [Addr.add];try omega
     subst bS
     have g_:=Lib.run_clear_slice (P:=E.P) w t e o.type eL hu (fun w=>by simp only [zeroValue,typeInfo,Sem.run_bind];simp [go_sem,jH,mb]) (by rw [l8,EY]) (by rw [EY];exact yZ) dY p.lo.toNat (p.hi.toNat - p.lo.toNat) bF (by omega) (fun j az=>im _ (by omega)) (fun j _=>Pl _)
     have e:p.hi.toNat - p.lo.toNat=(p.hi - p.lo).toNat:=by omega
     rw [e,EY] at g_
     simp only [bh,execOp,av,resolve,invoke,builtin,Sem.run_bind,Sem.run_pure,Result.andThen_ok,List.map_toArray,List.map_cons,List.map_nil,ak,e,g_]
   · exact h.elim
 · exact h.elim
end
end bB
namespace bB
open Go Go.RowKit ax J
def H9 (E:Env) (bl:List (aJ E.T.El)) (f:cE E.T.El) (cur:List (Nat × Bool)):Op->D (ep E.T.El)
 | .alloc t=>match AD E.P t with
   | some z=>.ok ⟨some (.b bl.length 0),bl++[.c t (z.map .p)],[]⟩
   | none=>.no
 | .box t x=>match cV E bl f cur x with
   | some y=>.ok ⟨some (.b bl.length 0),bl++[.c t (cellsOf y)],[]⟩
   | none=>.no
 | .makeMap t none=>match mapOf E.P t with
   | some (k,e)=>match (E.T.e k).key with
     | some _=>.ok ⟨some (.m bl.length),bl++[.m k e []],[]⟩
     | none=>.no
   | none=>.no
 | .store t p x=>match cV E bl f cur p,cV E bl f cur x with
   | some u,some v=>Nx E bl t u v
   | _,_=>.no
 | .mapUpdate t m k x=>match cV E bl f cur m,cV E bl f cur k,cV E bl f cur x with
   | some u,some v,some z=>H_ E bl t u v z
   | _,_,_=>.no
 | .insert t m k x=>match cV E bl f cur m,cV E bl f cur k,cV E bl f cur x with
   | some u,some v,some z=>H_ E bl t u v z
   | _,_,_=>.no
 | .buildSlice t n ⟨ps⟩=>match B_ E bl f cur ps with
   | some ys=>Nn E bl t n ys
   | none=>.no
 | .makeSlice t x y=>match cV E bl f cur x with
   | some u=>Nt E bl t x y u
   | none=>.no
 | .convert s d x=>match cV E bl f cur x with
   | some u=>Ny E bl s d u
   | none=>.no
 | .call ⟨.builtin .append,⟨[x,y]⟩,⟨[t,t']⟩⟩=>match Nat.beq t t',cV E bl f cur x,cV E bl f cur y with
   | true,some u,some v=>Nd E bl t u v
   | false,some u,some v=>Nf E bl t t' u v
   | _,_,_=>.no
 | .call ⟨.builtin .copy,⟨[x,y]⟩,⟨[t,t']⟩⟩=>match Nat.beq t t',cV E bl f cur x,cV E bl f cur y with
   | true,some u,some v=>Nj E bl t u v
   | _,_,_=>.no
 | .call ⟨.builtin .clear,⟨[x]⟩,⟨[t]⟩⟩=>match cV E bl f cur x with
   | some u=>Ni E bl t u
   | none=>.no
 | _=>.no
section
variable {E:Env} {W w w':World} {M0:List Nat} {X:Nat->Prop} {n:cN} {f:cE E.T.El} {bl:List (aJ E.T.El)} {ρ:List Value} {a:Act} {cur:List (Nat × Bool)}
theorem aov (a5:du E) (h:R E W M0 X n f bl ρ a w) (hc:iO a cur) {o:Oper} {op:Op} (av:o.op=op) {r:ep E.T.El} (aj:(H9 E bl f cur op).out r):gE E o a W M0 X bl ρ w r:=by
 unfold H9 at aj
 split at aj
 · rename_i t
   split at aj
   · rename_i z I
     have aj:(⟨some (.b bl.length 0),bl++[.c t (z.map .p)],[]⟩:ep E.T.El)=r:=aj
     subst aj
     obtain ⟨eL,bj,bk⟩:=G7 I
     exact aa6 h.mem (p5 z) (xz bj bk av)
   · exact aj.elim
 · rename_i t x
   split at aj
   · rename_i y I
     have aj:(⟨some (.b bl.length 0),bl++[.c t (cellsOf y)],[]⟩:ep E.T.El)=r:=aj
     subst aj
     exact aa6 h.mem (mR (dk h hc I)) (LZ (v:=a.eval x) (by simp) av rfl)
   · exact aj.elim
 · rename_i t
   split at aj
   · rename_i k e I
     split at aj
     · rename_i K aa
       have aj:(⟨some (.m bl.length),bl++[.m k e []],[]⟩:ep E.T.El)=r:=aj
       subst aj
       exact auF h.mem aa (aDe av)
     · exact aj.elim
   · exact aj.elim
 · split at aj
   · rename_i u v I aa
     exact aoH a5 h.mem aj av (dk h hc I) (dk h hc aa)
   · exact aj.elim
 · split at aj
   · rename_i u v z I aa au
     exact Yo a5 h.mem aj (.inl av) (dk h hc I) (dk h hc aa) (dk h hc au)
   · exact aj.elim
 · split at aj
   · rename_i u v z I aa au
     exact Yo a5 h.mem aj (.inr av) (dk h hc I) (dk h hc aa) (dk h hc au)
   · exact aj.elim
 · split at aj
   · rename_i ys I
     exact aoy a5 h.mem aj av (Ru h hc I)
   · exact aj.elim
 · split at aj
   · rename_i u I
     exact aoD a5 h.mem aj av (dk h hc I)
   · exact aj.elim
 · split at aj
   · rename_i u I
     exact aoI a5 h.mem aj av (dk h hc I)
   · exact aj.elim
 · rename_i x y t t'
   split at aj
   · rename_i u v I aa au
     have:=Nat.eq_of_beq_eq_true I
     subst this
     exact aoo a5 h.mem aj av (dk h hc aa) (dk h hc au)
   · rename_i u v I aa au
     exact aon a5 h.mem aj av (dk h hc aa) (dk h hc au)
   · exact aj.elim
 · rename_i x y t t'
   split at aj
   · rename_i u v I aa au
     have:=Nat.eq_of_beq_eq_true I
     subst this
     exact aos a5 h.mem aj av (dk h hc aa) (dk h hc au)
   · exact aj.elim
 · split at aj
   · rename_i u I
     exact aor a5 h.mem aj av (dk h hc I)
   · exact aj.elim
 · exact aj.elim
end
inductive Ho
 | q
 | e
 | c
 | no
def Jf (P:Program):Op->Ho
 | .call c=>match c.callee with
   | .value _=>.c
   | .builtin .len=>.q
   | .builtin .cap=>.q
   | .builtin .append=>.e
   | .builtin .copy=>.e
   | .builtin .clear=>.e
   | _=>.no
 | .alloc _ | .box _ _ | .makeMap _ _ | .store _ _ _ | .mapUpdate _ _ _ _ | .insert _ _ _ _ | .buildSlice _ _ _ | .makeSlice _ _ _=>.e
 | .convert s _ _=>match P.underlying s with
   | some .string=>.e
   | _=>.q
 | .move _ | .assign _ | .pick _ _ _ | .binOp _ _ _ _ _ | .unOp _ _ _ | .load _ _ | .fieldAddr _ _ _ | .nilCheck _ | .extract _ _ | .makeFunc _ _ _ | .makeInterface _ _ | .indexAddr _ _ _ | .index _ _ _
   | .slice _ _ _ _ _ | .lookup _ _ _ _ | .field _ _ _ | .build _ _=>.q
 | _=>.no
inductive VI
 | run
 | skip
 | maybe (bu:Nat) (want b:Bool)
 | cond (bu:Nat) (want:Bool)
 | no
def A6:Bool->Bool->Bool
 | true,true=>true
 | false,false=>true
 | _,_=>false
theorem u9 {a b:Bool}:A6 a b=true ↔ a=b:=by cases a <;> cases b <;> simp [A6]
def Iv (E:Env) (ops:Array Oper) (f:cE E.T.El) (n:Nat):Option (Nat × Bool)->VI
 | none=>.run
 | some (j,want)=>match D4 ops j with
   | none=>.no
   | some bu=>match Nat.blt bu n with
     | false=>.no
     | true=>match eI f.ef bu with
       | some b=>match A6 b want with
         | true=>.run
         | false=>.skip
       | none=>match eI f.a_ bu with
         | some (.p (.tuple ⟨[]⟩))=>.skip
         | some (.p (.bool b))=>match E.fJ with
           | true=>match A6 b want with
             | true=>.run
             | false=>.skip
           | false=>.maybe bu want b
         | some _=>.no
         | none=>.cond bu want
section
variable {E:Env} {W w w':World} {M0:List Nat} {X:Nat->Prop} {n:cN} {f:cE E.T.El} {bl:List (aJ E.T.El)} {ρ:List Value} {a:Act} {cur:List (Nat × Bool)} {ops:Array Oper} {o:Oper}
theorem azE {j bu:Nat} {want:Bool} (ao:a.tmps.size=n.n) (ay:o.guard=some (j,want)) (az:(ops[j]?).bind (·.dst)=some bu) (aF:Nat.blt bu n.n=true) :
 Region.wanted o (yielded ops a.tmps)=true ↔ a.tmps.getD bu undef= .bool want:=by
 have bx:bu <n.n:=Nat.le_of_ble_eq_true aF
 have aa:a.tmps[bu]? =some (a.tmps.getD bu undef):=by
  rw [Array.getElem?_eq_getElem (by omega)]
  simp [Array.getD_eq_getD_getElem?,ao,bx]
 simp only [Region.wanted,ay,yielded,az,Option.bind_some,aa,beq_iff_eq]
 constructor
 · intro h
   split at h
   · rename_i b ah
     simp only [Option.some.injEq] at h ah
     rw [ah,h]
   · cases h
 · intro h
   rw [h]
def alK (E:Env) (ops:Array Oper) (o:Oper) (a:Act) (f:cE E.T.El) (n:Nat):VI->Prop
 | .run=>Region.wanted o (yielded ops a.tmps)=true
 | .skip=>Region.wanted o (yielded ops a.tmps)=false
 | .maybe bu want b=>Nat.blt bu n=true/\a.tmps.getD bu undef= .bool b/\(Region.wanted o (yielded ops a.tmps)=true ↔ a.tmps.getD bu undef= .bool want)
 | .cond bu want=>Nat.blt bu n=true/\(Region.wanted o (yielded ops a.tmps)=true ↔ a.tmps.getD bu undef= .bool want)
 | .no=>True
theorem YP (h:R E W M0 X n f bl ρ a w):alK E ops o a f n.n (Iv E ops f n.n o.guard):=by
 have ao:=h.gN.ii.size
 cases ay:o.guard with
 | none=>exact K2 ay
 | some p=>
   obtain ⟨j,want⟩:=p
   simp only [Iv]
   split
   · trivial
   · rename_i bu qZ
     have yN:=Y3 qZ
     split
     · trivial
     · rename_i aF
       have hw:=azE (ops:=ops) (o:=o) ao ay yN aF
       split
       · rename_i b ai
         have e:=h.gN.ef _ (mm ai)
         split
         · rename_i ah
           rw [u9] at ah
           subst ah
           exact hw.2 e
         · rename_i ah
           refine (Bool.eq_false_iff).2 fun ad=>?_
           have:=hw.1 ad
           rw [e] at this
           injection this with this
           rw [u9.2 this] at ah
           cases ah
       · split
         · rename_i ag
           have e:=h.gN.ii.get _ _ ag
           simp only [aw] at e
           refine (Bool.eq_false_iff).2 fun ad=>?_
           have:=hw.1 ad
           rw [e] at this
           cases this
         · rename_i b ag
           have e:=h.gN.ii.get _ _ ag
           simp only [aw] at e
           split
           · split
             · rename_i ah
               rw [u9] at ah
               subst ah
               exact hw.2 e
             · rename_i ah
               refine (Bool.eq_false_iff).2 fun ad=>?_
               have:=hw.1 ad
               rw [e] at this
               injection this with this
               rw [u9.2 this] at ah
               cases ah
           · exact ⟨aF,e,hw⟩
         · trivial
         · exact ⟨aF,hw⟩
end
end bB
namespace bB
open Go Go.RowKit ax J
section
variable {α:Type} {β:Type 1}
noncomputable def qM (l:List α) (k:List α->β):β:=List.rec (motive:=fun _=>(List α->β)->β) (fun k=>k []) (fun p _ bi k=>bi fun r=>k (p::r)) l k
theorem NP (l:List α):∀ k:List α->β,qM l k=k l:=by
 induction l with
 | nil=>exact fun k=>rfl
 | cons p r bi=>exact fun k=>bi fun r=>k (p::r)
noncomputable def n9 (n:Nat) (k:Nat->β):β:=Nat.casesOn (motive:=fun _=>β) n (k 0) fun m=>k (Nat.succ m)
theorem Il (n:Nat) (k:Nat->β):n9 n k=k n:=by cases n <;> rfl
noncomputable def Ik (n:Int) (k:Int->β):β:=Int.casesOn (motive:=fun _=>β) n (fun m=>n9 m fun m=>k (Int.ofNat m)) (fun m=>n9 m fun m=>k (Int.negSucc m))
theorem YG (n:Int) (k:Int->β):Ik n k=k n:=by
 cases n
 · rename_i m;exact Il m fun m=>k (Int.ofNat m)
 · rename_i m;exact Il m fun m=>k (Int.negSucc m)
noncomputable def YF (b:Bool) (k:Bool->β):β:=Bool.casesOn (motive:=fun _=>β) b (k false) (k true)
theorem aoV (b:Bool) (k:Bool->β):YF b k=k b:=by cases b <;> rfl
noncomputable def NQ (v:Value) (k:Value->β):β:=match v with
 | .int i n=>Ik n fun n=>k (.int i n)
 | .bool b=>YF b fun b=>k (.bool b)
 | v=>k v
theorem aoZ (v:Value) (k:Value->β):NQ v k=k v:=by
 unfold NQ
 split
 · exact YG _ _
 · exact aoV _ _
 · rfl
variable {El:Nat->Type}
noncomputable def NR (y:aL El) (k:aL El->β):β:=match y with
 | .p v=>NQ v fun v=>k (.p v)
 | .b i o=>n9 i fun i=>n9 o fun o=>k (.b i o)
 | .r i g=>n9 i fun i=>n9 g fun g=>k (.r i g)
 | .v i g lo hi=>n9 i fun i=>n9 g fun g=>Ik lo fun lo=>Ik hi fun hi=>k (.v i g lo hi)
 | .s t l=>qM l fun l=>k (.s t l)
 | .a l=>qM l fun l=>k (.a l)
 | y=>k y
theorem ao0 (y:aL El) (k:aL El->β):NR y k=k y:=by
 unfold NR
 split <;> simp only [aoZ,Il,YG,NP]
noncomputable def Ij (B:aJ El) (k:aJ El->β):β:=match B with
 | .c ty cs=>qM cs fun cs=>k (.c ty cs)
 | .r t g n l=>n9 g fun g=>n9 n fun n=>qM l fun l=>k (.r t g n l)
 | .k t sz g cs=>n9 g fun g=>qM cs fun cs=>k (.k t sz g cs)
 | .m bT vt d=>qM d fun d=>k (.m bT vt d)
 | B=>k B
theorem aoX (B:aJ El) (k:aJ El->β):Ij B k=k B:=by
 unfold Ij
 split <;> simp only [Il,NP]
noncomputable def Ii (ws:List Nat) (oz:Nat) (l:List (aJ El)):Nat->(List (aJ El)->β)->β:=List.rec (motive:=fun _=>Nat->(List (aJ El)->β)->β) (fun _ k=>k []) (fun B _ bi n k=>cond (fA ws n || Nat.ble oz n) (Ij B fun B=>bi (n+ 1) fun r=>k (B::r)) (bi (n+ 1) fun r=>k (B::r))) l
theorem aoW (ws:List Nat) (oz:Nat) (l:List (aJ El)):∀ (n:Nat) (k:List (aJ El)->β),Ii ws oz l n k=k l:=by
 induction l with
 | nil=>exact fun n k=>rfl
 | cons B r bi=>
   intro n k
   show cond (fA ws n || Nat.ble oz n) (Ij B fun B=>Ii ws oz r (n+ 1) fun r=>k (B::r)) (Ii ws oz r (n+ 1) fun r=>k (B::r))=_
   rw [aoX,bi]
   cases fA ws n || Nat.ble oz n <;> rfl
noncomputable def NN (f:cE El) (k:cE El->β):β:=match f with
 | ⟨(d,y)::r,gs,ef⟩=>NR y fun y=>qM r fun r=>qM gs fun gs=>qM ef fun ef=>k ⟨(d,y)::r,gs,ef⟩
 | f=>k f
theorem aoY (f:cE El) (k:cE El->β):NN f k=k f:=by
 unfold NN
 split <;> simp only [ao0,NP]
end
noncomputable def zJ (E:Env) {β:Type 1} (f:cE E.T.El) (k:cE E.T.El->β):β:=match E.fJ with
 | true=>NN f k
 | false=>k f
theorem Fx {E:Env} {β:Type 1} (f:cE E.T.El) (k:cE E.T.El->β):zJ E f k=k f:=by
 unfold zJ
 split
 · exact aoY f k
 · rfl
noncomputable def Fw (E:Env) {β:Type 1} (ws:List Nat) (oz:Nat) (l:List (aJ E.T.El)) (k:List (aJ E.T.El)->β):β:=match E.fJ with
 | true=>Ii ws oz l 0 k
 | false=>k l
theorem Rr {E:Env} {β:Type 1} (ws:List Nat) (oz:Nat) (l:List (aJ E.T.El)) (k:List (aJ E.T.El)->β):Fw E ws oz l k=k l:=by
 unfold Fw
 split
 · exact aoW ws oz l 0 k
 · rfl
end bB
