/- LAW: THE WALK AND THE PLAIN LAW, JOINED TO THE GIVEN STATEMENT: for every input that the row speaks of, the call returns true and what came in reads as it did. Made by program (liftgen2.py). -/
import Derived.Test.YteeliipnilghaaaGreatZk6
import Derived.Test.YteeliipnilghaaaGreatRows
import Derived.WalkKit
import Derived.ProofKit
import Derived.OpenShut
import Derived.Deep.DeepHandedRow
namespace Go.Proofs.YteeliipnilghaaaGreat
open J
section
variable {F:Nat} {h:aW} {k:aQ} {Y O:List Int} {c1:List aq} {c2:List Int} {c3:List (List J.Field)} {c4:List (List (List UInt8))} {c5:List (List J.Target)} {ol yt nx:Int} {nt:List Int}
theorem xB (g:J.Good F h k Y O) {a:Int} (aD:a ∈ Y):1 <=a/\a.toNat+sz h.Words a<=h.a3.toNat/\h.a3<=h.ar+ 1 :=by
 have I:=g.l.Dc g.s a aD
 obtain ⟨_,_,⟨_,pc⟩,_⟩:=g.s
 unfold sz
 exact ⟨I.1,by omega,pc⟩
theorem aaX (g:J.Good F h k Y O) {t0:Nat} (ha:h.a1=(t0:Int)) {o:List Int} {D:Nat->Bool} {ck:List Int} (av:Ord Y o) (hi:Inv h.Words h.ar t0 o D ck) {v:Int} (af:v= 0 \/v ∈ Y++O) (f':∀ cU,Ord Y cU->bH h.Words t0 cU<=h.Words.length) :
 ∃ e1,rZ F v c1 c2 c3 c4 c5 h.ar ol yt ((bH h.Words t0 o:Nat):Int) nt nx ck (o.zip (news h.Words t0 o))=some ((eb (cK h.ar o v) (news h.Words t0 (cK h.ar o v)) v,()),((),c1,c2,c3,c4,c5,(),()),((),h.ar,ol,yt,((bH h.Words t0 (cK h.ar o v):Nat):Int),nt,nx,()),e1,(cK h.ar o v).zip (news h.Words t0 (cK h.ar o v)),())/\Inv h.Words h.ar t0 (cK h.ar o v) D e1:=by
 have EM:(news h.Words t0 o).length=o.length:=wA
 have Eg:=g.s.h6
 by_cases aP:v= 0 \/h.ar <v
 · have aB:cK h.ar o v=o:=by
    unfold cK
    rw [if_neg (by omega)]
   have aM:eb o (news h.Words t0 o) v=v:=by
    by_cases e:v= 0
    · unfold eb;rw [if_pos e]
    · refine adB fun hm=>?_
      have au:3 <=sz h.Words v:=by unfold sz;omega
      have:=xB g (av.sub v hm)
      omega
   rw [aB,aM]
   exact ⟨ck,aul aP,hi⟩
 · have I:v≠ 0 :=fun e=>aP (.inl e)
   have aa:v<=h.ar:=by omega
   have au:1 <=v:=by
    rcases af with af | af
    · exact absurd af I
    · exact (g.l.fit g.s v af).1
   have qS:=ux g af au aa
   by_cases hm:v ∈ o
   · have aB:cK h.ar o v=o:=by
      unfold cK
      rw [if_neg (fun e=>e.2 hm)]
     obtain ⟨j,az⟩:∃ j,pos o v=some j:=by
      cases aH:pos o v with
      | none=>exact absurd hm (tN.1 aH)
      | some j=>exact ⟨j,rfl⟩
     have bx:=(List.getElem?_eq_some_iff.1 (FG az)).1
     have ay:dz (o.zip (news h.Words t0 o)) v=some (news h.Words t0 o)[j]:=by
      rw [QZ EM,az]
      exact List.getElem?_eq_getElem (by omega)
     have aM:eb o (news h.Words t0 o) v=(news h.Words t0 o)[j]:=by
      unfold eb
      rw [if_neg I,az]
      dsimp only
      rw [List.getElem?_eq_getElem (by omega)]
      rfl
     rw [aB,aM]
     exact ⟨ck,auj I aa ay,hi⟩
   · have aB:cK h.ar o v=o++[v]:=by
      unfold cK
      rw [if_pos ⟨⟨au,aa⟩,hm⟩]
     have iT:Ord Y (o++[v]):=by rw [<-aB];exact av.cK fun _ _=>qS
     have k8:=f' _ iT
     rw [CJ] at k8
     obtain ⟨q,rfl⟩:∃ q:Nat,v=(q:Int):=⟨v.toNat,by omega⟩
     obtain ⟨dq,jx,qj⟩:=xB g qS
     rw [Int.toNat_natCast] at jx
     obtain ⟨n,aF⟩:∃ n,n=sz h.Words (q:Int):=⟨_,rfl⟩
     have dI:n= 3 +(wd h.Words (q+ 1)).toNat:=by rw [aF];unfold sz;rw [Int.toNat_natCast]
     rw [<-aF] at jx k8
     obtain ⟨_,_,⟨sj,pc⟩,⟨kn,sk⟩,_⟩:=g.s
     have dB:=j9 (W:=h.Words) (o:=o) (t:=t0)
     have ah3:∀ p,p <h.a3.toNat->wd ck p=wd h.Words p:=fun p aH=>by
      rw [hi.qc p (by omega),if_neg (fun d_=>by have:=(hi.yx p d_).1;omega)]
      unfold e7
      rw [if_pos (by omega)]
     have BP:=ah3 (q+ 1) (by omega)
     have hlen:=(oi.1 (g.l.zU _ (List.mem_append_left O qS)).2).1.1
     rw [Int.toNat_natCast] at hlen
     have ay:dz (o.zip (news h.Words t0 o)) (q:Int)=none:=by rw [QZ EM,tN.2 hm]
     obtain ⟨e1,ak,al,aT⟩:=auk (F:=F) (c1:=c1) (c2:=c2) (c3:=c3) (c4:=c4) (c5:=c5) (ol:=ol) (yt:=yt) (nt:=nt) (nx:=nx) (W:=ck) (t:=bH h.Words t0 o) (n:=n) (by omega) aa ay (by rw [BP];exact hlen) (by rw [BP];exact dI) (by rw [hi.len];omega) (by rw [hi.len];omega) (by rw [hi.len];omega)
     have aj:cK h.ar o (q:Int)=o++[(q:Int)]:=aB
     rw [aj,JS,CJ,<-aF,azj EM I hm,<-aaY EM hm]
     refine ⟨e1,ak,?_⟩
     have qK:∀ p,e7 h.Words t0 (o++[(q:Int)]) p=if bH h.Words t0 o<=p/\p <bH h.Words t0 o+n then wd h.Words (q+(p - bH h.Words t0 o)) else e7 h.Words t0 o p:=fun p=>by
      unfold e7
      by_cases aH:p <t0
      · rw [if_pos aH,if_pos aH,if_neg (by omega)]
      · rw [if_neg aH,if_neg aH,MC (by omega),<-aF,Int.toNat_natCast]
     refine ⟨by rw [al,hi.len],fun p aH=>?_,fun p d_=>?_⟩
     · rw [aT p,qK p,JS]
       by_cases m8:bH h.Words t0 o<=p/\p <bH h.Words t0 o+n
       · rw [if_pos m8,if_pos m8,if_neg (fun d_=>by have:=(hi.yx p d_).2.1;omega),ah3 _ (by omega)]
       · rw [if_neg m8,if_neg m8,hi.qc p aH]
         by_cases d_:D p=true
         · rw [if_pos d_,if_pos d_,adA EM (by
            rcases (hi.yx p d_).2.2 with e | e | e
            · exact .inl e
            · exact .inr (.inr (by omega))
            · exact .inr (.inl e))]
         · rw [if_neg d_,if_neg d_]
     · obtain ⟨d1,d2,d3⟩:=hi.yx p d_
       rw [qK p,if_neg (by omega),CJ]
       refine ⟨d1,by omega,?_⟩
       rcases d3 with e | e | e
       · exact .inl e
       · exact .inr (.inl e)
       · exact .inr (.inr (List.mem_append_left _ e))
end
end Go.Proofs.YteeliipnilghaaaGreat
namespace Go.Proofs.YteeliipnilghaaaGreat
open J
theorem ayQ {W:List Int} {y:Int} {t0:Nat} {o:List Int} {D:Nat->Bool} {ck:List Int} (hi:Inv W y t0 o D ck) {w:Nat} (hw:w <W.length) (I:y <(w:Int)) (aa:w <bH W t0 o) (au:e7 W t0 o w= 0 \/y <e7 W t0 o w\/e7 W t0 o w ∈ o) :
 Inv W y t0 o (fun p=>D p || Nat.beq p w) (ck.set w (eb o (news W t0 o) (e7 W t0 o w))):=by
 refine ⟨by rw [List.length_set,hi.len],fun p aH=>?_,fun p d_=>?_⟩
 · rw [ad9 (by rw [hi.len];exact hw)]
   by_cases e:p=w
   · subst e
     rw [if_pos rfl,if_pos (by simp)]
   · rw [if_neg e,hi.qc p aH]
     have:Nat.beq p w=false:=by
      rw [Bool.eq_false_iff]
      intro ah
      exact e (Nat.eq_of_beq_eq_true ah)
     simp only [this,Bool.or_false]
 · simp only [Bool.or_eq_true] at d_
   rcases d_ with d_ | d_
   · exact hi.yx p d_
   · have:=Nat.eq_of_beq_eq_true d_
     subst this
     exact ⟨I,aa,au⟩
theorem S1 {y:Int} {o:List Int} {v:Int} (h:1 <=v) (aa:v<=y):v ∈ cK y o v:=by
 unfold cK
 split
 · simp
 · rename_i aF
   by_cases hm:v ∈ o
   · exact hm
   · exact absurd ⟨⟨h,aa⟩,hm⟩ aF
theorem Yu {W:List Int} {t0:Nat} {o t:List Int} {p:Nat} (aH:p <bH W t0 o):e7 W t0 (o++t) p=e7 W t0 o p:=by
 induction t generalizing o with
 | nil=>rw [List.append_nil]
 | cons b r bi=>
   rw [show o++b::r=(o++[b])++r by simp]
   have I:p <bH W t0 (o++[b]):=by rw [CJ];omega
   rw [bi I]
   unfold e7
   by_cases aa:p <t0
   · rw [if_pos aa,if_pos aa]
   · rw [if_neg aa,if_neg aa,MC (by omega),if_neg (by omega)]
def nw (k:aQ) (W:List Int) (a:Nat):Nat->Nat->List Int
 | _,0 =>[]
 | j,d+ 1 =>if eK k (wd W a) j=true then wd W (a+ 3 +j)::nw k W a (j+ 1) d else nw k W a (j+ 1) d
theorem acU {k:aQ} {W:List Int} {a:Nat}:∀ {d j:Nat},nw k W a j d=((List.range' j d).flatMap fun i=>if eK k (wd W a) i then [((a+ 3 +i:Nat):Int)] else []).map fun w=>wd W w.toNat
 | 0,j=>rfl
 | d+ 1,j=>by
   rw [nw,List.range'_succ,List.flatMap_cons,List.map_append,<-acU]
   split
   · rfl
   · rfl
theorem ayC {k:aQ} {W:List Int} {a:Nat}:nw k W a 0 (wd W (a+ 1)).toNat=fq k W (a:Int):=by
 rw [acU]
 unfold fq refs
 rw [Int.toNat_natCast,List.range_eq_range']
end Go.Proofs.YteeliipnilghaaaGreat
namespace Go.Proofs.YteeliipnilghaaaGreat
open J
def uI (k:aQ) (tag:Int) (u:Nat):Nat->Nat->(Nat->Bool)->Nat->Bool
 | _,0,D=>D
 | j,d+ 1,D=>uI k tag u (j+ 1) d (if eK k tag j=true then fun p=>D p || Nat.beq p (u+ 3 +j) else D)
section
variable {F:Nat} {h:aW} {k:aQ} {Y O:List Int} {ol yt nx:Int} {nt:List Int}
theorem ax9 (g:J.Good F h k Y O) {t0:Nat} (ha:h.a1=(t0:Int)) (f':∀ cU,Ord Y cU->bH h.Words t0 cU<=h.Words.length) {a u:Nat} (aD:(a:Int) ∈ Y++O) (hu:h.ar <(u:Int)) {len:Nat} (hlen:wd h.Words (a+ 1)=(len:Int)) :
 ∀ (d j f:Nat) (o:List Int) (D:Nat->Bool) (ck:List Int),j+d=len->d <f->Ord Y o->Inv h.Words h.ar t0 o D ck->(∀ i,i < 3 +len->e7 h.Words t0 o (u+i)=wd h.Words (a+i))->u+ 3 +len<=bH h.Words t0 o->(∀ i,i < 3 ->D (u+i)=false)->(∀ i,j<=i->i <len->D (u+ 3 +i)=false) ->
 ∃ e1,xD F f (u:Int) (len:Int) (j:Int) k.bc k.a8 k.Fields k.Names k.a9 h.ar ol yt ((bH h.Words t0 o:Nat):Int) nt nx ck (o.zip (news h.Words t0 o))=some ((),((),k.bc,k.a8,k.Fields,k.Names,k.a9,(),()),((),h.ar,ol,yt,((bH h.Words t0 ((nw k h.Words a j d).foldl (cK h.ar) o):Nat):Int),nt,nx,()),e1,((nw k h.Words a j d).foldl (cK h.ar) o).zip (news h.Words t0 ((nw k h.Words a j d).foldl (cK h.ar) o)),()) /\
   Inv h.Words h.ar t0 ((nw k h.Words a j d).foldl (cK h.ar) o) (uI k (wd h.Words a) u j d D) e1:=by
 intro d
 have Eg:=g.s.h6
 have ET:=g.l.zU _ aD
 rw [Int.toNat_natCast] at ET
 obtain ⟨aM,ap⟩:=ET
 rw [hlen] at ap
 induction d with
 | zero=>
   intro j f o D ck az ag av hi ah vI d_ IA
   obtain ⟨f,rfl⟩:∃ b8,f=b8+ 1 :=⟨f - 1,by omega⟩
   have:j=len:=by omega
   subst this
   refine ⟨ck,?_,hi⟩
   rw [xD,bK,cond_false]
   rfl
 | succ d bi=>
   intro j f o D ck az ag av hi ah vI d_ IA
   obtain ⟨f,rfl⟩:∃ b8,f=b8+ 1 :=⟨f - 1,by omega⟩
   have jk:j <len:=by omega
   have ZO:=f' o av
   have q6:u <ck.length:=by rw [hi.len];omega
   have arx:wd ck u=wd h.Words a:=by
    have:=hi.qc u (by omega)
    rw [this,if_neg (by have:=d_ 0 (by omega);simpa using this)]
    simpa using ah 0 (by omega)
   have yS:j<= 100000 :=by omega
   have vJ:u+ 3 +j <ck.length:=by rw [hi.len];omega
   have arE:wd ck (u+ 3 +j)=wd h.Words (a+ 3 +j):=by
    rw [hi.qc _ (by omega),if_neg (by rw [IA j (by omega) jk];simp)]
    have:=ah (3 +j) (by omega)
    rw [show u+ 3 +j=u+(3 +j) by omega,this,show a+ 3 +j=a+(3 +j) by omega]
   have P1:u+ 3 <= 100000 :=by omega
   have P2:u+ 3 +j<= 100000 :=by omega
   have vH:vz (ch.mk (aQ.mk k.bc k.a8 k.Fields k.Names k.a9)) (wd h.Words a) (j:Int)=some (eK k (wd h.Words a) j):=ade g.ja aM ap (by omega)
   rw [xD,bL jk,cond_true,gb q6,Option.bind_some,arx,vH,Option.bind_some]
   cases aB:eK k (wd h.Words a) j with
   | false=>
     rw [cond_false,kN yS]
     have:=bi (j+ 1) f o D ck (by omega) (by omega) av hi ah vI d_ (fun i I aa=>IA i (by omega) aa)
     rw [nw,uI,aB]
     simpa using this
   | true=>
     have gO:idx ck (J.aE (J.aE ((u:Int)+ 3)+(j:Int)))=some (wd ck (u+ 3 +j)):=by
      rw [show J.aE ((u:Int)+ 3)=((u+ 3 :Nat):Int) from nD (b:=3) P1,nD P2]
      exact gb vJ
     obtain ⟨v,af⟩:∃ v,v=wd h.Words (a+ 3 +j):=⟨_,rfl⟩
     have y6:v= 0 \/v ∈ Y++O:=by
      have:=g.ok.ref _ aD ((a+ 3 +j:Nat):Int) (v9.2 ⟨j,by rw [Int.toNat_natCast,hlen,Int.toNat_natCast];exact jk,by rw [Int.toNat_natCast];exact aB,by rw [Int.toNat_natCast]⟩)
      rw [Int.toNat_natCast,<-af] at this
      exact this
     obtain ⟨hX,di,eg⟩:=aaX (F:=F) (c1:=k.bc) (c2:=k.a8) (c3:=k.Fields) (c4:=k.Names) (c5:=k.a9) (ol:=ol) (yt:=yt) (nx:=nx) (nt:=nt) g ha av hi y6 f'
     obtain ⟨dF,k_⟩:∃ dF,dF=cK h.ar o v:=⟨_,rfl⟩
     rw [<-k_] at di eg
     obtain ⟨TH,sY⟩:=S2 (y:=h.ar) (a:=v) (o:=o)
     rw [<-k_] at sY
     have mX:Ord Y dF:=by rw [k_];exact av.cK (ux g y6)
     have art:bH h.Words t0 o<=bH h.Words t0 dF:=by rw [sY,CK];exact j9
     have yO:∀ p,p <bH h.Words t0 o->e7 h.Words t0 dF p=e7 h.Words t0 o p:=fun p aH=>by rw [sY];exact Yu aH
     have Zq:e7 h.Words t0 dF (u+ 3 +j)=v:=by
      rw [yO _ (by omega),show u+ 3 +j=u+(3 +j) by omega,ah (3 +j) (by omega),af,show a+ 3 +j=a+(3 +j) by omega]
     have ao:=ayQ eg (w:=u+ 3 +j) (by rw [hi.len] at vJ;exact vJ) (by omega) (by omega) (by
      rw [Zq]
      rcases y6 with e | e
      · exact .inl e
      · by_cases hy:h.ar <v
        · exact .inr (.inl hy)
        · refine .inr (.inr ?_)
          rw [k_]
          exact S1 (g.l.fit g.s v e).1 (by omega))
     rw [Zq] at ao
     have aq2:idx hX (J.aE (J.aE ((u:Int)+ 3)+(j:Int)))=some (wd hX (u+ 3 +j)):=by
      rw [show J.aE ((u:Int)+ 3)=((u+ 3 :Nat):Int) from nD (b:=3) P1,nD P2]
      exact gb (by rw [eg.len];rw [hi.len] at vJ;exact vJ)
     obtain ⟨nY,cd,c7⟩:=bi (j+ 1) f dF (fun p=>D p || Nat.beq p (u+ 3 +j)) (hX.set (u+ 3 +j) (eb dF (news h.Words t0 dF) v)) (by omega) (by omega) mX ao (fun i I=>by rw [yO _ (by omega)];exact ah i I) (by omega)
      (fun i I=>by
       have:Nat.beq (u+i) (u+ 3 +j)=false:=by
        rw [Bool.eq_false_iff];intro aS;have:=Nat.eq_of_beq_eq_true aS;omega
       simp [d_ i I,this])
      (fun i I aa=>by
       have:Nat.beq (u+ 3 +i) (u+ 3 +j)=false:=by
        rw [Bool.eq_false_iff];intro aS;have:=Nat.eq_of_beq_eq_true aS;omega
       simp [IA i (by omega) aa,this])
     refine ⟨nY,?_,?_⟩
     · rw [cond_true,gO,Option.bind_some,arE,<-af,di,Option.bind_some]
       dsimp only
       rw [aq2,Option.bind_some,show J.aE ((u:Int)+ 3)=((u+ 3 :Nat):Int) from nD (b:=3) P1,nD P2,kN yS,Int.toNat_natCast,nw,if_pos aB,List.foldl_cons,<-af,<-k_]
       exact cd
     · rw [nw,if_pos aB,List.foldl_cons,<-af,<-k_,uI,if_pos aB]
       exact c7
end
end Go.Proofs.YteeliipnilghaaaGreat
namespace Go.Proofs.YteeliipnilghaaaGreat
open J
theorem Xb {k:aQ} {tag:Int} {u:Nat}:∀ {d j:Nat} {D:Nat->Bool} {p:Nat},uI k tag u j d D p=true ↔ D p=true\/ ∃ i,j<=i/\i <j+d/\eK k tag i=true/\p=u+ 3 +i
 | 0,j,D,p=>by
   rw [uI]
   exact ⟨.inl,fun h=>h.elim id fun ⟨i,I,aa,_⟩=>by omega⟩
 | d+ 1,j,D,p=>by
   rw [uI,Xb]
   cases aB:eK k tag j with
   | true=>
     simp only [if_true,Bool.or_eq_true]
     constructor
     · rintro ((h | h) | ⟨i,I,aa,au,bb⟩)
       · exact .inl h
       · exact .inr ⟨j,Nat.le_refl _,by omega,aB,Nat.eq_of_beq_eq_true h⟩
       · exact .inr ⟨i,by omega,by omega,au,bb⟩
     · rintro (h | ⟨i,I,aa,au,bb⟩)
       · exact .inl (.inl h)
       · by_cases e:i=j
         · subst e
           exact .inl (.inr (by rw [bb];simp))
         · exact .inr ⟨i,by omega,by omega,au,bb⟩
   | false=>
     simp only [Bool.false_eq_true,if_false]
     constructor
     · rintro (h | ⟨i,I,aa,au,bb⟩)
       · exact .inl h
       · exact .inr ⟨i,by omega,by omega,au,bb⟩
     · rintro (h | ⟨i,I,aa,au,bb⟩)
       · exact .inl h
       · by_cases e:i=j
         · subst e
           rw [aB] at au
           cases au
         · exact .inr ⟨i,by omega,by omega,au,bb⟩
def uJ (k:aQ) (W:List Int) (a u:Nat) (D:Nat->Bool):Nat->Bool:=uI k (wd W a) u 0 (wd W (a+ 1)).toNat D
theorem DO {k:aQ} {W:List Int} {a u:Nat} {D:Nat->Bool} {p:Nat}:uJ k W a u D p=true ↔ D p=true\/ ∃ i,i <(wd W (a+ 1)).toNat/\eK k (wd W a) i=true/\p=u+ 3 +i:=by
 unfold uJ
 rw [Xb]
 constructor
 · rintro (h | ⟨i,_,aa,au,bb⟩)
   · exact .inl h
   · exact .inr ⟨i,by omega,au,bb⟩
 · rintro (h | ⟨i,aa,au,bb⟩)
   · exact .inl h
   · exact .inr ⟨i,Nat.zero_le _,by omega,au,bb⟩
section
variable {F:Nat} {h:aW} {k:aQ} {Y O:List Int} {ol yt nx:Int} {nt:List Int}
theorem acJ (aI:10000 <F) (g:J.Good F h k Y O) {t0:Nat} (ha:h.a1=(t0:Int)) (f':∀ cU,Ord Y cU->bH h.Words t0 cU<=h.Words.length) {a u:Nat} (aD:(a:Int) ∈ Y++O) (hu:h.ar <(u:Int)) {o:List Int} {D:Nat->Bool} {ck:List Int} (av:Ord Y o) (hi:Inv h.Words h.ar t0 o D ck)
 (ah:∀ i,i <sz h.Words (a:Int)->e7 h.Words t0 o (u+i)=wd h.Words (a+i)) (vI:u+sz h.Words (a:Int)<=bH h.Words t0 o) (d_:∀ i,i <sz h.Words (a:Int)->D (u+i)=false) :
 ∃ e1,G6 F (u:Int) k.bc k.a8 k.Fields k.Names k.a9 h.ar ol yt ((bH h.Words t0 o:Nat):Int) nt nx ck (o.zip (news h.Words t0 o))=some ((),((),k.bc,k.a8,k.Fields,k.Names,k.a9,(),()),((),h.ar,ol,yt,((bH h.Words t0 ((fq k h.Words (a:Int)).foldl (cK h.ar) o):Nat):Int),nt,nx,()),e1,((fq k h.Words (a:Int)).foldl (cK h.ar) o).zip (news h.Words t0 ((fq k h.Words (a:Int)).foldl (cK h.ar) o)),()) /\
   Inv h.Words h.ar t0 ((fq k h.Words (a:Int)).foldl (cK h.ar) o) (uJ k h.Words a u D) e1:=by
 have Eg:=g.s.h6
 have ET:=g.l.zU _ aD
 rw [Int.toNat_natCast] at ET
 have k9:=(oi.1 ET.2).1
 obtain ⟨len,hlen⟩:∃ len:Nat,wd h.Words (a+ 1)=(len:Int):=⟨(wd h.Words (a+ 1)).toNat,by omega⟩
 have dI:sz h.Words (a:Int)= 3 +len:=by unfold sz;rw [Int.toNat_natCast,hlen,Int.toNat_natCast]
 rw [dI] at ah vI d_
 have ZO:=f' o av
 obtain ⟨nY,cd,c7⟩:=ax9 (F:=F) (ol:=ol) (yt:=yt) (nx:=nx) (nt:=nt) g ha f' aD hu hlen len 0 F o D ck (by omega) (by omega) av hi ah (by omega) (fun i I=>d_ i (by omega)) (fun i _ aa=>by rw [show u+ 3 +i=u+(3 +i) by omega];exact d_ (3 +i) (by omega))
 have e:nw k h.Words a 0 len=fq k h.Words (a:Int):=by rw [<-ayC,hlen,Int.toNat_natCast]
 rw [e] at cd c7
 refine ⟨nY,?_,by unfold uJ;rw [hlen,Int.toNat_natCast];exact c7⟩
 have BO:u<= 100000 :=by omega
 have q6:u+ 1 <ck.length:=by rw [hi.len];omega
 have hw:wd ck (u+ 1)=(len:Int):=by
  rw [hi.qc _ (by omega),if_neg (by rw [d_ 1 (by omega)];simp),ah 1 (by omega),hlen]
 unfold G6
 rw [kN BO,gb q6,Option.bind_some,hw]
 have av9:xD F F (u:Int) (len:Int) 0 k.bc k.a8 k.Fields k.Names k.a9 h.ar ol yt ((bH h.Words t0 o:Nat):Int) nt nx ck (o.zip (news h.Words t0 o))=_:=cd
 rw [av9,Option.bind_some]
end
end Go.Proofs.YteeliipnilghaaaGreat
namespace Go.Proofs.YteeliipnilghaaaGreat
open J
def nC (n:Nat):List Int:=(List.range n).map fun (x:Nat)=>(x:Int)
theorem adO {n:Nat}:(nC n).length=n:=by simp [nC]
theorem azq {n i:Nat} (h:i <n):(nC n)[i]? =some (i:Int):=by
 unfold nC
 rw [List.getElem?_map,List.getElem?_range h]
 rfl
theorem avA {n:Nat} (aF:n<= 5000):∀ (d i f:Nat),i+d=n->d <f->J.ql (n:Int) f (nC i) (i:Int)=some (nC n):=by
 intro d
 induction d with
 | zero=>
   intro i f h ag
   obtain ⟨f,rfl⟩:∃ b8,f=b8+ 1 :=⟨f - 1,by omega⟩
   have:i=n:=by omega
   subst this
   rw [J.ql,bK,cond_false]
 | succ d bi=>
   intro i f h ag
   obtain ⟨f,rfl⟩:∃ b8,f=b8+ 1 :=⟨f - 1,by omega⟩
   have hi:i <n:=by omega
   have m4:i<= 100000 :=by omega
   have Eh:bO 8 (nC i) [(i:Int)]=some (nC (i+ 1)):=by
    unfold bO
    rw [if_pos (by rw [adO];simp only [List.length_singleton];omega)]
    unfold nC
    rw [List.range_succ,List.map_append]
    rfl
   rw [J.ql,bL hi,cond_true,Eh,Option.bind_some,kN m4]
   exact bi (i+ 1) f (by omega) (by omega)
theorem avz {F n:Nat} (aF:n<= 5000) (aI:10000 <F):J.rY F (n:Int)=some (nC n):=avA aF n 0 F (by omega) (by omega)
theorem adC {W:List Int} {t0:Nat} {y v:Int} {o:List Int} (af:v= 0 \/v ∈ o\/y <v):∀ {t:List Int},(∀ b ∈ t,b<=y)->eb (o++t) (news W t0 (o++t)) v=eb o (news W t0 o) v:=by
 intro t
 induction t generalizing o with
 | nil=>intro _;rw [List.append_nil]
 | cons b r bi=>
   intro ah
   rw [show o++b::r=(o++[b])++r by simp]
   rw [bi (o:=o++[b]) (by
    rcases af with e | e | e
    · exact .inl e
    · exact .inr (.inl (List.mem_append_left _ e))
    · exact .inr (.inr e)) (fun c hc=>ah c (by simp [hc]))]
   rw [JS,adA wA (by
    rcases af with e | e | e
    · exact .inl e
    · exact .inr (.inl e)
    · have:=ah b (by simp);exact .inr (.inr (by omega)))]
end Go.Proofs.YteeliipnilghaaaGreat
namespace Go.Proofs.YteeliipnilghaaaGreat
open J
section
variable {F:Nat} {h:aW} {k:aQ} {Y O:List Int} {c1:List aq} {c2:List Int} {c3:List (List J.Field)} {c4:List (List (List UInt8))} {c5:List (List J.Target)} {ol yt nx bg:Int} {nt:List Int}
theorem ays (g:J.Good F h k Y O) {t0:Nat} (ha:h.a1=(t0:Int)) (f':∀ cU,Ord Y cU->bH h.Words t0 cU<=h.Words.length) {D:Nat->Bool} {roots:List Int} (aF:roots.length<= 5000) (aB:∀ v ∈ roots,v= 0 \/v ∈ Y++O) :
 ∀ (d i f:Nat) (o ck rs:List Int),i+d=roots.length->d <f->Ord Y o->Inv h.Words h.ar t0 o D ck->rs=(roots.take i).map (eb o (news h.Words t0 o))++roots.drop i->(∀ v ∈ roots.take i,v= 0 \/v ∈ o\/h.ar <v) ->
 ∃ e1,AA F f bg (nC roots.length) (roots.length:Int) (i:Int) h.ar ol yt ((bH h.Words t0 o:Nat):Int) nt nx ck c1 c2 c3 c4 c5 (o.zip (news h.Words t0 o)) rs=some (((),(),bg,()),((),h.ar,ol,yt,((bH h.Words t0 ((roots.drop i).foldl (cK h.ar) o):Nat):Int),nt,nx,()),e1,((),c1,c2,c3,c4,c5,(),()),((roots.drop i).foldl (cK h.ar) o).zip (news h.Words t0 ((roots.drop i).foldl (cK h.ar) o)),roots.map (eb ((roots.drop i).foldl (cK h.ar) o) (news h.Words t0 ((roots.drop i).foldl (cK h.ar) o))),()) /\
   Inv h.Words h.ar t0 ((roots.drop i).foldl (cK h.ar) o) D e1:=by
 intro d
 induction d with
 | zero=>
   intro i f o ck rs aN ag av hi q5 af
   obtain ⟨f,rfl⟩:∃ b8,f=b8+ 1 :=⟨f - 1,by omega⟩
   have:i=roots.length:=by omega
   subst this
   refine ⟨ck,?_,by rw [List.drop_length];exact hi⟩
   rw [AA,bK,cond_false,q5,List.drop_length,List.take_length,List.append_nil]
   rfl
 | succ d bi=>
   intro i f o ck rs aN ag av hi q5 af
   obtain ⟨f,rfl⟩:∃ b8,f=b8+ 1 :=⟨f - 1,by omega⟩
   have cn:i <roots.length:=by omega
   have m4:i<= 100000 :=by omega
   have kv:roots[i] ∈ roots:=List.getElem_mem cn
   have y6:=aB _ kv
   have sY:((roots.take i).map (eb o (news h.Words t0 o))).length=i:=by simp;omega
   have ad:rs[i]? =some roots[i]:=by
    rw [q5,List.getElem?_append_right (by omega),sY,Nat.sub_self,List.drop_eq_getElem_cons cn]
    rfl
   obtain ⟨hX,di,eg⟩:=aaX (F:=F) (c1:=c1) (c2:=c2) (c3:=c3) (c4:=c4) (c5:=c5) (ol:=ol) (yt:=yt) (nx:=nx) (nt:=nt) g ha av hi y6 f'
   have mX:Ord Y (cK h.ar o roots[i]):=av.cK (ux g y6)
   obtain ⟨TH,PZ⟩:=S2 (y:=h.ar) (a:=roots[i]) (o:=o)
   have arw:∀ b ∈ TH,b<=h.ar:=fun b ah=>by
    have I:=xB g (mX.sub b (by rw [PZ];exact List.mem_append_right _ ah))
    have au:3 <=sz h.Words b:=by unfold sz;omega
    omega
   have aqV:roots[i]= 0 \/roots[i] ∈ cK h.ar o roots[i]\/h.ar <roots[i]:=by
    rcases y6 with e | e
    · exact .inl e
    · by_cases hy:h.ar <roots[i]
      · exact .inr (.inr hy)
      · exact .inr (.inl (S1 (g.l.fit g.s _ e).1 (by omega)))
   obtain ⟨nY,cd,c7⟩:=bi (i+ 1) f (cK h.ar o roots[i]) hX (rs.set i (eb (cK h.ar o roots[i]) (news h.Words t0 (cK h.ar o roots[i])) roots[i])) (by omega) (by omega) mX eg (by
    rw [q5,List.set_append_right _ _ (by omega),sY,Nat.sub_self,List.drop_eq_getElem_cons cn,List.set_cons_zero,List.take_succ_eq_append_getElem cn,List.map_append,List.append_assoc]
    congr 1
    refine List.map_congr_left fun v ff=>?_
    have:=adC (W:=h.Words) (t0:=t0) (o:=o) (af v ff) arw
    rw [PZ]
    exact this.symm) (fun v ff=>by
     rw [List.take_succ_eq_append_getElem cn] at ff
     rcases List.mem_append.1 ff with ff | ff
     · rcases af v ff with e | e | e
       · exact .inl e
       · exact .inr (.inl (by rw [PZ];exact List.mem_append_left _ e))
       · exact .inr (.inr e)
     · cases List.mem_singleton.1 ff;exact aqV)
   refine ⟨nY,?_,by rw [List.drop_eq_getElem_cons cn,List.foldl_cons];exact c7⟩
   rw [AA,bL cn,cond_true,bt (azq cn),Option.bind_some,bt ad,Option.bind_some,di,Option.bind_some]
   dsimp only
   rw [kN m4,Int.toNat_natCast,List.drop_eq_getElem_cons cn,List.foldl_cons]
   exact cd
end
end Go.Proofs.YteeliipnilghaaaGreat
namespace Go.Proofs.YteeliipnilghaaaGreat
open J
section
variable {F:Nat} {h:aW} {k:aQ} {Y O:List Int} {ol yt nx bg:Int} {nt:List Int}
theorem ayt (aI:10000 <F) (g:J.Good F h k Y O) {t0:Nat} (ha:h.a1=(t0:Int)) (f':∀ cU,Ord Y cU->bH h.Words t0 cU<=h.Words.length) {l:List Int} (aF:l.length<= 5000) (ap:∀ x ∈ l,x ∈ O) (sU:l.Nodup) :
 ∀ (d i f:Nat) (o:List Int) (D:Nat->Bool) (ck:List Int),i+d=l.length->d <f->Ord Y o->Inv h.Words h.ar t0 o D ck->(∀ x ∈ l.drop i,∀ m,m <sz h.Words x->D (x.toNat+m)=false) ->
 ∃ e1,AB F f bg l (l.length:Int) (i:Int) h.ar ol yt ((bH h.Words t0 o:Nat):Int) nt nx ck k.bc k.a8 k.Fields k.Names k.a9 (o.zip (news h.Words t0 o))=some (((),(),bg,()),((),h.ar,ol,yt,((bH h.Words t0 (((l.drop i).flatMap (fq k h.Words)).foldl (cK h.ar) o):Nat):Int),nt,nx,()),e1,((),k.bc,k.a8,k.Fields,k.Names,k.a9,(),()),(((l.drop i).flatMap (fq k h.Words)).foldl (cK h.ar) o).zip (news h.Words t0 (((l.drop i).flatMap (fq k h.Words)).foldl (cK h.ar) o)),()) /\
   Inv h.Words h.ar t0 (((l.drop i).flatMap (fq k h.Words)).foldl (cK h.ar) o) ((l.drop i).foldl (fun D x=>uJ k h.Words x.toNat x.toNat D) D) e1:=by
 intro d
 induction d with
 | zero=>
   intro i f o D ck aN ag av hi d_
   obtain ⟨f,rfl⟩:∃ b8,f=b8+ 1 :=⟨f - 1,by omega⟩
   have:i=l.length:=by omega
   subst this
   refine ⟨ck,?_,by rw [List.drop_length];exact hi⟩
   rw [AB,bK,cond_false,List.drop_length]
   rfl
 | succ d bi=>
   intro i f o D ck aN ag av hi d_
   obtain ⟨f,rfl⟩:∃ b8,f=b8+ 1 :=⟨f - 1,by omega⟩
   have cn:i <l.length:=by omega
   have m4:i<= 100000 :=by omega
   have kv:l[i] ∈ l:=List.getElem_mem cn
   have hz:=ap _ kv
   have O6:l[i] ∈ Y++O:=List.mem_append_right Y hz
   obtain ⟨bp,bI⟩:=g.l.js g.s _ hz
   obtain ⟨⟨⟨bZ,ed⟩,fX,gr⟩,jR,⟨sj,pc⟩,⟨kn,sk⟩,si⟩:=g.s
   obtain ⟨a,aD⟩:∃ a:Nat,l[i]=(a:Int):=⟨l[i].toNat,by omega⟩
   have apo:∀ m,m <sz h.Words (a:Int)->D (a+m)=false:=fun m hm=>by
    have:=d_ l[i] (by rw [List.drop_eq_getElem_cons cn];exact List.mem_cons_self) m (by rw [aD];exact hm)
    rwa [aD,Int.toNat_natCast] at this
   have dB:=j9 (W:=h.Words) (o:=o) (t:=t0)
   have k8:a+sz h.Words (a:Int)<=t0:=by
    rw [aD,Int.toNat_natCast] at bI
    unfold sz
    rw [Int.toNat_natCast]
    omega
   obtain ⟨hX,di,eg⟩:=acJ (ol:=ol) (yt:=yt) (nx:=nx) (nt:=nt) aI g ha f' (a:=a) (u:=a) (by rw [<-aD];exact O6) (by omega) av hi (fun m hm=>by unfold e7;rw [if_pos (by omega)]) (by omega) apo
   have mX:Ord Y ((fq k h.Words (a:Int)).foldl (cK h.ar) o):=av.fold fun v af=>ux g (wO g (by rw [<-aD];exact O6) v af)
   obtain ⟨nY,cd,c7⟩:=bi (i+ 1) f _ _ hX (by omega) (by omega) mX eg (fun x ad m hm=>by
    have oh:x ∈ l:=List.mem_of_mem_drop ad
    have b5:l[i]≠x:=fun e=>by
     have I:(l.drop i).Nodup:=sU.sublist (List.drop_sublist _ _)
     rw [List.drop_eq_getElem_cons cn] at I
     exact (List.nodup_cons.1 I).1 (by rw [e];exact ad)
    rw [Bool.eq_false_iff]
    intro hc
    rcases DO.1 hc with hc | ⟨j,I,aa,au⟩
    · have:=d_ x (by rw [List.drop_eq_getElem_cons cn];exact List.mem_cons_of_mem _ ad) m hm
      rw [this] at hc
      cases hc
    · have:=g.l.apart g.s _ O6 _ (List.mem_append_right Y (ap _ oh)) b5
      rw [aD,Int.toNat_natCast] at this
      unfold sz at hm
      omega)
   refine ⟨nY,?_,?_⟩
   · rw [AB,bL cn,cond_true,bt (List.getElem?_eq_getElem cn),Option.bind_some,aD,di,Option.bind_some]
     dsimp only
     rw [kN m4,List.drop_eq_getElem_cons cn,List.flatMap_cons,List.foldl_append,aD]
     exact cd
   · rw [List.drop_eq_getElem_cons cn,List.flatMap_cons,List.foldl_append,List.foldl_cons,aD,Int.toNat_natCast]
     exact c7
end
end Go.Proofs.YteeliipnilghaaaGreat
namespace Go.Proofs.YteeliipnilghaaaGreat
open J
theorem KT {W:List Int} {t i:Nat} {o:List Int} (hi:i <o.length):bH W t (o.take (i+ 1))=bH W t (o.take i)+sz W o[i]:=by
 rw [List.take_succ_eq_append_getElem hi,CJ]
theorem KU {W:List Int} {t i:Nat} {o:List Int}:bH W t (o.take i)<=bH W t o:=by
 conv=>rhs;rw [<-List.take_append_drop i o,CK]
 exact j9
theorem Wk {W:List Int}:∀ {o:List Int} {t i m:Nat} (hi:i <o.length),m <sz W o[i]->base W t o (bH W t (o.take i)+m)=wd W (o[i].toNat+m)
 | [],t,i,m,hi,_=>by simp at hi
 | a::r,t,0,m,hi,hm=>by
   have hm:m <sz W a:=hm
   show base W t (a::r) (t+m)=wd W (a.toNat+m)
   rw [base,if_pos (by omega),Nat.add_sub_cancel_left]
 | a::r,t,i+ 1,m,hi,hm=>by
   have I:i <r.length:=by simpa using hi
   have hm:m <sz W r[i]:=hm
   show base W t (a::r) (bH W (t+sz W a) (r.take i)+m)=wd W (r[i].toNat+m)
   have:=j9 (W:=W) (o:=r.take i) (t:=t+sz W a)
   rw [base,if_neg (by omega)]
   exact Wk I hm
theorem Yt {W:List Int} {o:List Int} {t i m:Nat} (hi:i <o.length) (hm:m <sz W o[i]):e7 W t o (bH W t (o.take i)+m)=wd W (o[i].toNat+m):=by
 have:=j9 (W:=W) (o:=o.take i) (t:=t)
 unfold e7
 rw [if_neg (by omega)]
 exact Wk hi hm
section
variable {F:Nat} {h:aW} {k:aQ} {Y O:List Int} {ol yt nx:Int} {nt:List Int}
theorem ayu (aI:10000 <F) (g:J.Good F h k Y O) {t0:Nat} (ha:h.a1=(t0:Int)) (f':∀ cU,Ord Y cU->bH h.Words t0 cU<=h.Words.length) :
 ∀ (d i f:Nat) (o:List Int) (D:Nat->Bool) (ck:List Int),Y.length <i+d->d <f->i<=o.length->Ord Y o->Inv h.Words h.ar t0 o D ck->(∀ p,bH h.Words t0 (o.take i)<=p->D p=false) ->
 ∃ e1 VC,AC F f ((bH h.Words t0 (o.take i):Nat):Int) h.ar ol yt ((bH h.Words t0 o:Nat):Int) nt nx ck k.bc k.a8 k.Fields k.Names k.a9 (o.zip (news h.Words t0 o))=some (((),()),((),h.ar,ol,yt,((bH h.Words t0 (scan k h.Words h.ar d i o):Nat):Int),nt,nx,()),e1,((),k.bc,k.a8,k.Fields,k.Names,k.a9,(),()),(scan k h.Words h.ar d i o).zip (news h.Words t0 (scan k h.Words h.ar d i o)),()) /\
   Inv h.Words h.ar t0 (scan k h.Words h.ar d i o) VC e1/\(∃ t,scan k h.Words h.ar d i o=o++t) /\
   ∀ p,VC p=true ↔ D p=true\/ ∃ (j:Nat) (a:Int),i<=j/\(scan k h.Words h.ar d i o)[j]? =some a/\ ∃ m,m <(wd h.Words (a.toNat+ 1)).toNat/\eK k (wd h.Words a.toNat) m=true/\p=bH h.Words t0 ((scan k h.Words h.ar d i o).take j)+ 3 +m:=by
 intro d
 have qS:=WR g.ja g
 have Eg:=g.s.h6
 induction d with
 | zero=>
   intro i f o D ck hi ag Pq av
   have:=av.len
   omega
 | succ d bi=>
   intro i f o D ck aN ag Pq av hi d_
   obtain ⟨f,rfl⟩:∃ b8,f=b8+ 1 :=⟨f - 1,by omega⟩
   rcases Nat.lt_or_ge i o.length with cn | cn
   · have ad:o[i]? =some o[i]:=List.getElem?_eq_getElem cn
     have ZB:o[i] ∈ Y:=av.sub _ (List.getElem_mem cn)
     have kv:o[i] ∈ Y++O:=List.mem_append_left O ZB
     obtain ⟨dq,jx,qj⟩:=xB g ZB
     obtain ⟨⟨⟨bZ,ed⟩,fX,gr⟩,jR,⟨sj,pc⟩,⟨kn,sk⟩,si⟩:=g.s
     obtain ⟨a,aD⟩:∃ a:Nat,o[i]=(a:Int):=⟨o[i].toNat,by omega⟩
     have k9:=(oi.1 (g.l.zU _ kv).2).1
     rw [aD,Int.toNat_natCast] at k9
     obtain ⟨n,aF⟩:∃ n:Nat,wd h.Words (a+ 1)=(n:Int):=⟨(wd h.Words (a+ 1)).toNat,by omega⟩
     have PX:sz h.Words (a:Int)= 3 +n:=by unfold sz;rw [Int.toNat_natCast,aF,Int.toNat_natCast]
     have y4:=KT (W:=h.Words) (t:=t0) cn
     rw [aD,PX] at y4
     have aEh:=KU (W:=h.Words) (t:=t0) (i:=i+ 1) (o:=o)
     have PY:=j9 (W:=h.Words) (t:=t0) (o:=o.take i)
     have ZO:=f' o av
     obtain ⟨u,hu⟩:∃ u,u=bH h.Words t0 (o.take i):=⟨_,rfl⟩
     rw [<-hu] at y4 d_ PY ⊢
     have yO:∀ m,m <sz h.Words (a:Int)->e7 h.Words t0 o (u+m)=wd h.Words (a+m):=fun m hm=>by
      have:=Yt (W:=h.Words) (t:=t0) (m:=m) cn (by rw [aD];exact hm)
      rw [<-hu,aD,Int.toNat_natCast] at this
      exact this
     obtain ⟨hX,di,eg⟩:=acJ (ol:=ol) (yt:=yt) (nx:=nx) (nt:=nt) aI g ha f' (a:=a) (u:=u) (by rw [<-aD];exact kv) (by omega) av hi yO (by rw [PX];omega) (fun m _=>d_ _ (by omega))
     have mX:Ord Y ((fq k h.Words (a:Int)).foldl (cK h.ar) o):=av.fold fun v af=>ux g (wO g (by rw [<-aD];exact kv) v af)
     obtain ⟨dF,k_⟩:∃ dF,dF=(fq k h.Words (a:Int)).foldl (cK h.ar) o:=⟨_,rfl⟩
     rw [<-k_] at di eg mX
     obtain ⟨t,aM⟩:=yA (y:=h.ar) (l:=fq k h.Words (a:Int)) (o:=o)
     rw [<-k_] at aM
     have ZU:dF.take (i+ 1)=o.take (i+ 1):=by rw [aM,List.take_append_of_le_length (by omega)]
     have aEd:=f' dF mX
     have art:bH h.Words t0 o<=bH h.Words t0 dF:=by rw [aM,CK];exact j9
     obtain ⟨nY,alG,cd,c7,⟨t2,hk⟩,rD⟩:=bi (i+ 1) f dF (uJ k h.Words a u D) hX (by omega) (by omega) (by rw [aM,List.length_append];omega) mX eg (fun p aH=>by
      rw [ZU,y4] at aH
      rw [Bool.eq_false_iff]
      intro hc
      rcases DO.1 hc with hc | ⟨m,I,aa,au⟩
      · rw [d_ p (by omega)] at hc
        cases hc
      · rw [aF,Int.toNat_natCast] at I
        omega)
     have ER:scan k h.Words h.ar (d+ 1) i o=scan k h.Words h.ar d (i+ 1) dF:=by rw [scan,ad,aD,k_]
     rw [ZU,y4] at cd
     rw [ER]
     refine ⟨nY,alG,?_,c7,⟨t++t2,by rw [hk,aM,List.append_assoc]⟩,fun p=>?_⟩
     · have q6:u+ 1 <hX.length:=by rw [eg.len];omega
       have BO:u<= 100000 :=by omega
       have arz:u+(3 +n)<= 100000 :=by omega
       have BP:wd hX (u+ 1)=(n:Int):=by
        rw [eg.qc _ (by omega),if_neg (by
         intro hc
         rcases DO.1 hc with hc | ⟨m,I,aa,au⟩
         · rw [d_ (u+ 1) (by omega)] at hc
           cases hc
         · omega),aM,Yu (by omega),yO 1 (by rw [PX];omega),aF]
       have au:3 +n<= 100000 :=by omega
       have bx:((u:Nat):Int) <((bH h.Words t0 o:Nat):Int):=by omega
       rw [AC,decide_eq_true bx,cond_true,di,Option.bind_some]
       dsimp only
       rw [kN BO,gb q6,Option.bind_some,BP,show J.aE (3 +(n:Int))=((3 +n:Nat):Int) from nD (a:=3) au,nD arz]
       exact cd
     · rw [rD p,DO]
       have ZQ:(scan k h.Words h.ar d (i+ 1) dF)[i]? =some (a:Int):=by
        rw [hk,aM,List.append_assoc,List.getElem?_append_left (by omega),ad,aD]
       have ZR:(scan k h.Words h.ar d (i+ 1) dF).take i=o.take i:=by
        rw [hk,aM,List.append_assoc,List.take_append_of_le_length (by omega)]
       constructor
       · rintro ((hc | ⟨m,I,aa,au⟩) | ⟨j,b,I,aa,au⟩)
         · exact .inl hc
         · exact .inr ⟨i,(a:Int),Nat.le_refl _,ZQ,m,by rw [Int.toNat_natCast];exact I,by rw [Int.toNat_natCast];exact aa,by rw [ZR,<-hu];exact au⟩
         · exact .inr ⟨j,b,by omega,aa,au⟩
       · rintro (hc | ⟨j,b,I,aa,m,au,bb,c0⟩)
         · exact .inl (.inl hc)
         · by_cases e:j=i
           · subst e
             rw [ZQ] at aa
             cases aa
             rw [Int.toNat_natCast] at au bb
             rw [ZR,<-hu] at c0
             exact .inl (.inr ⟨m,au,bb,c0⟩)
           · exact .inr ⟨j,b,by omega,aa,m,au,bb,c0⟩
   · have:i=o.length:=by omega
     subst this
     have ER:scan k h.Words h.ar (d+ 1) o.length o=o:=by rw [scan,List.getElem?_eq_none (Nat.le_refl _)]
     rw [ER,List.take_length]
     refine ⟨ck,D,?_,hi,⟨[],by simp⟩,fun p=>⟨.inl,?_⟩⟩
     · rw [AC,decide_eq_false (by omega),cond_false]
     · rintro (hc | ⟨j,b,I,aa,_⟩)
       · exact hc
       · rw [List.getElem?_eq_none I] at aa
         cases aa
end
end Go.Proofs.YteeliipnilghaaaGreat
namespace Go.Proofs.YteeliipnilghaaaGreat
open J
theorem ayZ {l:List Int} (h:u3 l):l.Nodup:=by
 rw [List.nodup_iff_pairwise_ne,List.pairwise_iff_getElem]
 intro i j hi az yR e
 have:=h i j yR az
 rw [nE (List.getElem?_eq_getElem hi),nE (List.getElem?_eq_getElem az)] at this
 omega
theorem MY {k:aQ} {W:List Int} {p:Nat}:∀ {l:List Int} {D:Nat->Bool},l.foldl (fun D x=>uJ k W x.toNat x.toNat D) D p=true ↔ D p=true\/ ∃ x ∈ l,∃ i,i <(wd W (x.toNat+ 1)).toNat/\eK k (wd W x.toNat) i=true/\p=x.toNat+ 3 +i
 | [],D=>by simp
 | y::r,D=>by
   rw [List.foldl_cons,MY (l:=r),DO]
   constructor
   · rintro ((h | ⟨i,h⟩) | ⟨x,ad,h⟩)
     · exact .inl h
     · exact .inr ⟨y,List.mem_cons_self,i,h⟩
     · exact .inr ⟨x,List.mem_cons_of_mem _ ad,h⟩
   · rintro (h | ⟨x,ad,h⟩)
     · exact .inl (.inl h)
     · rcases List.mem_cons.1 ad with rfl | ad
       · exact .inl (.inr h)
       · exact .inr ⟨x,ad,h⟩
theorem DX {y v:Int}:∀ {l o:List Int},v ∈ l-> 1 <=v->v<=y->v ∈ l.foldl (cK y) o
 | a::r,o,af,I,aa=>by
   rw [List.foldl_cons]
   rcases List.mem_cons.1 af with rfl | af
   · obtain ⟨t,aM⟩:=yA (y:=y) (l:=r) (o:=cK y o v)
     rw [aM]
     exact List.mem_append_left _ (S1 I aa)
   · exact DX af I aa
structure V7 (k:aQ) (W:List Int) (t0:Nat) (nt o:List Int) (p:Nat):Prop where
 it:(∃ x ∈ nt,∃ i,i <(wd W (x.toNat+ 1)).toNat/\eK k (wd W x.toNat) i=true/\p=x.toNat+ 3 +i) \/
  ∃ (j:Nat) (a:Int),o[j]? =some a/\ ∃ m,m <(wd W (a.toNat+ 1)).toNat/\eK k (wd W a.toNat) m=true/\p=bH W t0 (o.take j)+ 3 +m
section
variable {F:Nat} {h:aW} {k:aQ} {Y O:List Int}
theorem run_eq (aI:10000 <F) (g:J.Good F h k Y O) {t0:Nat} (ha:h.a1=(t0:Int)) (f':∀ cU,Ord Y cU->bH h.Words t0 cU<=h.Words.length) {roots:List Int} (ap:roots.length<= 5000) (aB:∀ v ∈ roots,v= 0 \/v ∈ Y++O) :
 ∃ (e1:List Int) (D:Nat->Bool),Az F k.bc k.a8 k.Fields k.Names k.a9 (nC roots.length) h.ar h.aV h.a3 h.a1 h.aY h.Next h.Words roots=some ((),((),h.ar,h.aV,1,((bH h.Words t0 (order k h Y roots):Nat):Int),[],h.Next,()),e1,roots.map (eb (order k h Y roots) (news h.Words t0 (order k h Y roots))),()) /\
   e1.length=h.Words.length /\
   (∀ p:Nat,p <h.Words.length->wd e1 p=if 1 <=p/\(p:Int)<=h.ar then 0 else if D p=true then eb (order k h Y roots) (news h.Words t0 (order k h Y roots)) (e7 h.Words t0 (order k h Y roots) p) else e7 h.Words t0 (order k h Y roots) p) /\
   (∀ p:Nat,D p=true ↔ V7 k h.Words t0 h.aY (order k h Y roots) p)/\ ∀ p:Nat,D p=true->h.ar <(p:Int)/\p <bH h.Words t0 (order k h Y roots):=by
 have Eg:=g.s.h6
 have aF:=g.Rq
 have qS:=WR g.ja g
 have mX:=abz g aB
 have Ed:=RC g aB
 obtain ⟨⟨⟨bZ,ed⟩,fX,gr⟩,jR,⟨sj,pc⟩,⟨kn,sk⟩,si⟩:=id g.s
 unfold okB at jR
 have Ew:Inv h.Words h.ar t0 [] (fun _=>false) h.Words:=⟨rfl,fun p aH=>by
  rw [if_neg (by simp)]
  unfold e7
  by_cases vF:p <t0
  · rw [if_pos vF]
  · rw [if_neg vF]
    exact g.ok.a_ p aH (.inr (.inr (by omega))),fun p aH=>by cases aH⟩
 obtain ⟨hX,l1,cp⟩:=ays (F:=F) (c1:=k.bc) (c2:=k.a8) (c3:=k.Fields) (c4:=k.Names) (c5:=k.a9) (ol:=h.aV) (yt:=h.a3) (nx:=h.Next) (nt:=h.aY) (bg:=h.a1) g ha f' ap aB roots.length 0 F [] h.Words roots (by omega) (by omega) Ord.nil Ew (by simp) (by simp)
 rw [List.drop_zero] at l1 cp
 obtain ⟨dF,k_⟩:∃ dF,dF=roots.foldl (cK h.ar) []:=⟨_,rfl⟩
 rw [<-k_] at l1 cp mX
 obtain ⟨nY,di,eg⟩:=ayt (ol:=h.aV) (yt:=h.a3) (nx:=h.Next) (nt:=h.aY) (bg:=h.a1) aI g ha f' (l:=h.aY) aF (fun x ad=>(g.ok.nt x ad).1) (ayZ g.ok.Tz) h.aY.length 0 F dF (fun _=>false) hX (by omega) (by omega) mX cp (fun _ _ _ _=>rfl)
 rw [List.drop_zero] at di eg
 obtain ⟨dc,PO⟩:∃ dc,dc=(h.aY.flatMap (fq k h.Words)).foldl (cK h.ar) dF:=⟨_,rfl⟩
 rw [<-k_] at Ed
 rw [<-PO] at di eg Ed
 have apq:∀ p,h.aY.foldl (fun D x=>uJ k h.Words x.toNat x.toNat D) (fun _=>false) p=true->p <t0:=fun p aH=>by
  rcases MY.1 aH with aH | ⟨x,ad,i,I,aa,au⟩
  · cases aH
  · have:=g.l.js g.s x (g.ok.nt x ad).1
    omega
 obtain ⟨alT,alH,bp,bI,⟨TH,b2⟩,gj⟩:=ayu (ol:=h.aV) (yt:=h.a3) (nx:=h.Next) (nt:=h.aY) aI g ha f' (Y.length+ 1) 0 F dc _ nY (by omega) (by omega) (Nat.zero_le _) Ed eg (fun p aH=>by
  rw [List.take_zero] at aH
  have aH:t0<=p:=aH
  rw [Bool.eq_false_iff]
  intro hc
  have:=apq p hc
  omega)
 have aqZ:order k h Y roots=scan k h.Words h.ar (Y.length+ 1) 0 dc:=by rw [PO,k_];rfl
 rw [<-aqZ] at bp bI b2 gj
 rw [List.take_zero] at bp
 have hlen:(List.replicate (((h.ar+ 1) - 1).toNat) (0 :Int)).length=h.ar.toNat:=by rw [List.length_replicate];omega
 refine ⟨fp alT 1 (List.replicate (((h.ar+ 1) - 1).toNat) 0),alH,?_,?_,fun p aH=>?_,fun p=>?_,fun p aH=>⟨(bI.yx p aH).1,(bI.yx p aH).2.1⟩⟩
 · rw [ha] at l1 di
   have asr:AA F F (t0:Int) (nC roots.length) (roots.length:Int) 0 h.ar h.aV h.a3 (t0:Int) h.aY h.Next h.Words k.bc k.a8 k.Fields k.Names k.a9 [] roots=_:=l1
   have avN:AC F F (t0:Int) h.ar h.aV h.a3 ((bH h.Words t0 dc:Nat):Int) h.aY h.Next nY k.bc k.a8 k.Fields k.Names k.a9 (dc.zip (news h.Words t0 dc))=_:=bp
   have at4:AB F F (t0:Int) h.aY (h.aY.length:Int) 0 h.ar h.aV h.a3 ((bH h.Words t0 dF:Nat):Int) h.aY h.Next hX k.bc k.a8 k.Fields k.Names k.a9 (dF.zip (news h.Words t0 dF))=_:=di
   have arO:J.aE (h.ar+ 1)=h.ar+ 1 :=da (by omega) (by omega)
   have aD4:=bI.len
   unfold Az
   rw [adO,ha,asr,Option.bind_some]
   dsimp only
   rw [at4,Option.bind_some]
   dsimp only
   rw [avN,Option.bind_some]
   dsimp only
   rw [arO,if_pos (by omega),Option.bind_some]
   unfold tL
   rw [if_pos (decide_eq_true (by omega)),Option.bind_some]
   obtain ⟨aEA,hm⟩:=yA (y:=h.ar) (l:=h.aY.flatMap (fq k h.Words)) (o:=dF)
   rw [<-PO] at hm
   have hOr:=J2 g aB
   have sw:roots.map (eb dF (news h.Words t0 dF))=roots.map (eb (order k h Y roots) (news h.Words t0 (order k h Y roots))):=by
    refine List.map_congr_left fun v af=>?_
    rw [b2,hm,List.append_assoc] at hOr ⊢
    refine (adC (y:=h.ar) ?_ fun b ah=>?_).symm
    · rcases aB v af with e | e
      · exact .inl e
      · by_cases hy:h.ar <v
        · exact .inr (.inr hy)
        · refine .inr (.inl ?_)
          rw [k_]
          exact DX af (g.l.fit g.s v e).1 (by omega)
    · have:=xB g (hOr.sub b (List.mem_append_right _ ah))
      have au:3 <=sz h.Words b:=by unfold sz;omega
      omega
   rw [sw]
   rfl
 · rw [Cf (by rw [hlen,bI.len];omega),bI.len]
 · rw [ad8 (by rw [hlen,bI.len];omega),hlen]
   by_cases y1:1 <=p/\(p:Int)<=h.ar
   · rw [if_pos (by omega),if_pos y1]
     unfold wd
     rw [List.getElem?_replicate]
     split <;> rfl
   · rw [if_neg (by omega),if_neg y1]
     exact bI.qc p aH
 · rw [gj p,MY]
   constructor
   · rintro ((hc | hc) | ⟨j,a,_,aa,au⟩)
     · cases hc
     · exact ⟨.inl hc⟩
     · exact ⟨.inr ⟨j,a,aa,au⟩⟩
   · rintro ⟨hc | ⟨j,a,aa,au⟩⟩
     · exact .inl (.inr hc)
     · exact .inr ⟨j,a,Nat.zero_le _,aa,au⟩
end
end Go.Proofs.YteeliipnilghaaaGreat
namespace Go.Proofs.YteeliipnilghaaaGreat
open J
theorem adz {W:List Int} {o:List Int} {t i i' j fP:Nat} (az:j <o.length) (l9:fP <o.length) (hi:i <sz W o[j]) (cP:i' <sz W o[fP]) (e:bH W t (o.take j)+i=bH W t (o.take fP)+i'):j=fP:=by
 have key:∀ {a b:Nat} (aD:a <o.length),a <b->bH W t (o.take a)+sz W o[a]<=bH W t (o.take b):=fun {a b} aD yJ=>by
  rw [<-KT aD]
  have:o.take (a+ 1)=(o.take b).take (a+ 1):=by rw [List.take_take,Nat.min_eq_left (by omega)]
  rw [this]
  exact KU
 rcases Nat.lt_trichotomy j fP with h | h | h
 · have:=key az h;omega
 · exact h
 · have:=key l9 h;omega
section
variable {F:Nat} {h:aW} {k:aQ} {Y O:List Int}
structure Kept (h:aW) (k:aQ) (O:List Int) (t0:Nat) (o e1:List Int):Prop where
 len:e1.length=h.Words.length
 js:∀ a ∈ O,∀ i,i <sz h.Words a->wd e1 (a.toNat+i)=val k h.Words o (news h.Words t0 o) a.toNat i
 new:∀ j (az:j <o.length),∀ i,i <sz h.Words o[j]->wd e1 (bH h.Words t0 (o.take j)+i)=val k h.Words o (news h.Words t0 o) o[j].toNat i
 a_:∀ p,p <h.Words.length->(p <(h.ar+ 1).toNat\/bH h.Words t0 o<=p)->wd e1 p= 0
theorem asm (g:J.Good F h k Y O) {t0:Nat} (ha:h.a1=(t0:Int)) {o e1:List Int} {D:Nat->Bool} (av:Ord Y o) (f':bH h.Words t0 o<=h.Words.length)
 (hlen:e1.length=h.Words.length) (hw:∀ p:Nat,p <h.Words.length->wd e1 p=if 1 <=p/\(p:Int)<=h.ar then 0 else if D p=true then eb o (news h.Words t0 o) (e7 h.Words t0 o p) else e7 h.Words t0 o p)
 (d_:∀ p:Nat,D p=true ↔ V7 k h.Words t0 h.aY o p) (app:∀ p:Nat,D p=true->h.ar <(p:Int)/\p <bH h.Words t0 o):Kept h k O t0 o e1:=by
 obtain ⟨⟨⟨bZ,ed⟩,fX,gr⟩,jR,⟨sj,pc⟩,⟨kn,sk⟩,si⟩:=id g.s
 have dB:=j9 (W:=h.Words) (o:=o) (t:=t0)
 refine ⟨hlen,fun a aD i I=>?_,fun j az i I=>?_,fun p aH hc=>?_⟩
 · obtain ⟨bp,bI⟩:=g.l.js g.s a aD
   have aEg:sz h.Words a= 3 +(wd h.Words (a.toNat+ 1)).toNat:=rfl
   have ZI:a.toNat+i <t0:=by omega
   rw [hw _ (by omega),if_neg (by omega)]
   have yO:e7 h.Words t0 o (a.toNat+i)=wd h.Words (a.toNat+i):=by unfold e7;rw [if_pos ZI]
   rw [yO]
   unfold val
   have BJ:D (a.toNat+i)=true ↔ a ∈ h.aY/\ 3 <=i/\eK k (wd h.Words a.toNat) (i - 3)=true:=by
    rw [d_]
    constructor
    · rintro ⟨⟨x,ad,m,di,eg,ll⟩ | ⟨j,b,_,m,_,_,ll⟩⟩
      · have arM:=(g.ok.nt x ad).1
        by_cases e:a=x
        · subst e
          refine ⟨ad,by omega,?_⟩
          rw [show i - 3 =m by omega]
          exact eg
        · have:=g.l.apart g.s _ (List.mem_append_right Y aD) _ (List.mem_append_right Y arM) e
          unfold sz at I
          omega
      · have:=j9 (W:=h.Words) (o:=o.take j) (t:=t0)
        omega
    · rintro ⟨aa,au,bb⟩
      unfold sz at I
      exact ⟨.inl ⟨a,aa,i - 3,by omega,bb,by omega⟩⟩
   by_cases aB:3 <=i/\eK k (wd h.Words a.toNat) (i - 3)=true
   · rw [if_pos aB]
     by_cases aF:a ∈ h.aY
     · rw [if_pos (BJ.2 ⟨aF,aB⟩)]
     · rw [if_neg (fun hc=>aF (BJ.1 hc).1)]
       unfold sz at I
       have hm:((a.toNat+i:Nat):Int) ∈ refs k h.Words a.toNat:=v9.2 ⟨i - 3,by omega,aB.2,by omega⟩
       have ZD:=g.ok.must a aD aF _ hm
       have vH:=g.ok.ref a (List.mem_append_right Y aD) _ hm
       rw [Int.toNat_natCast] at ZD vH
       by_cases cF:wd h.Words (a.toNat+i)= 0
       · rw [cF];unfold eb;rw [if_pos rfl]
       · refine (adB fun kv=>ZD ?_).symm
         have:=xB g (av.sub _ kv)
         have au:3 <=sz h.Words (wd h.Words (a.toNat+i)):=by unfold sz;omega
         omega
   · rw [if_neg aB,if_neg (fun hc=>aB (BJ.1 hc).2)]
 · have y4:=KT (W:=h.Words) (t:=t0) az
   have sY:=KU (W:=h.Words) (t:=t0) (i:=j+ 1) (o:=o)
   have m9:=j9 (W:=h.Words) (o:=o.take j) (t:=t0)
   have ZI: ¬ bH h.Words t0 (o.take j)+i <t0:=by omega
   rw [hw _ (by omega),if_neg (by omega),Yt az I]
   unfold val
   have BJ:D (bH h.Words t0 (o.take j)+i)=true ↔ 3 <=i/\eK k (wd h.Words o[j].toNat) (i - 3)=true:=by
    rw [d_]
    constructor
    · rintro ⟨⟨x,ad,m,di,eg,ll⟩ | ⟨fP,b,ah,m,di,eg,ll⟩⟩
      · have:=g.l.js g.s x (g.ok.nt x ad).1
        omega
      · obtain ⟨l9,e⟩:=List.getElem?_eq_some_iff.1 ah
        have:=adz (t:=t0) az l9 I (i':=3 +m) (by rw [e];unfold sz;omega) (by omega)
        subst this
        rw [e]
        refine ⟨by omega,?_⟩
        rw [show i - 3 =m by omega]
        exact eg
    · rintro ⟨aa,au⟩
      unfold sz at I
      exact ⟨.inr ⟨j,o[j],List.getElem?_eq_getElem az,i - 3,by omega,au,by omega⟩⟩
   by_cases aB:3 <=i/\eK k (wd h.Words o[j].toNat) (i - 3)=true
   · rw [if_pos aB,if_pos (BJ.2 aB)]
   · rw [if_neg aB,if_neg (fun hc=>aB (BJ.1 hc))]
 · rw [hw p aH]
   by_cases y1:1 <=p/\(p:Int)<=h.ar
   · rw [if_pos y1]
   · rw [if_neg y1,if_neg (fun mZ=>by have:=app p mZ;omega)]
     by_cases vF:p= 0
     · subst vF
       unfold e7
       rw [if_pos (by omega)]
       exact g.ok.a_ 0 aH (.inl rfl)
     · unfold e7
       rw [if_neg (by omega)]
       exact Wl (by omega)
end
end Go.Proofs.YteeliipnilghaaaGreat
namespace J
section
variable {F:Nat} {k:aQ} {h:aW} {Y O:List Int}
theorem ay6 (aI:10000 <F) (g:Good F h k Y O):o8 F h k=some (Y,O,true):=by
 rcases acu (F:=F) (by omega) g.ja g.s with ⟨Dz,AM,ap,e⟩ | ⟨iS,_⟩
 · obtain rfl:=ap.y.w4 g.l.y
   obtain rfl:=ap.o.w4 g.l.o
   exact e
 · exact absurd g.l (iS _ _)
def sm (Y O:List Int) (a:Int):Bool:=!decide (a= 0) && !decide (a ∈ Y++O)
def nv (Y O roots:List Int):Int:=if 1000 <(roots.length:Int) then 2 else if roots.any (sm Y O) then 5 else 0
theorem Tf (aI:10000 <F) (g:Good F h k Y O) (roots:List Int):xC F (view h k Y O) roots=some (nv Y O roots):=by
 unfold xC nv
 by_cases ap:1000 <(roots.length:Int)
 · rw [decide_eq_true ap,if_pos ap];rfl
 · rw [decide_eq_false ap,if_neg ap,cond_false]
   unfold KI KM
   have ag:=NF (l:=roots) (L:=wY roots (view h k Y O)) (sm Y O) (by omega) (fun f i x ad=>by
    rw [wY,bL (List.getElem?_eq_some_iff.1 ad).1,cond_true,bt ad,Option.bind_some]
    unfold L7 sm
    by_cases aP:x= 0
    · rw [decide_eq_true aP];rfl
    · rw [decide_eq_false aP,Bool.not_false,cond_true,Bool.true_and]
      show Option.bind (Option.bind (Bz (view h k Y O) x) _) _=_
      rw [g.dS x]
      rfl) (fun f=>by rw [wY,bK];rfl) (F:=F) (by omega)
   refine Eq.trans (congrArg (fun o=>Option.bind o fun (r:Bool)=>cond r (some (5 :Int)) (some 0)) (ag:_)) ?_
   rw [Option.bind_some]
   cases roots.any (sm Y O) <;> rfl
theorem ayd (aI:10000 <F) (g:Good F h k Y O) (roots:List Int):uV F h k roots=some (nv Y O roots):=by
 have hc:Y.length+O.length<= 5000 :=(g.l.qb g.ja g.s).n4
 unfold uV nv
 by_cases ap:1000 <(roots.length:Int)
 · rw [decide_eq_true ap,if_pos ap];rfl
 · rw [decide_eq_false ap,if_neg ap,cond_false]
   have ak:o8 F (⟨h.Words,h.ar,h.aV,h.a3,h.a1,h.aY,h.Next⟩:aW) (⟨k.bc,k.a8,k.Fields,k.Names,k.a9⟩:aQ)=_:=ay6 aI g
   rw [ak,Option.bind_some]
   have dQ:nV F roots (Y,O,true) F 0 =some (cv (roots.findSome? fun a=>if sm Y O a then some 5 else none)):=each _ (by omega) (fun f i x ad=>by
    rw [nV,bL (List.getElem?_eq_some_iff.1 ad).1,cond_true,bt ad,Option.bind_some,Option.bind_some]
    rw [show kX F (Y,O,true).1 x=some (decide (x ∈ Y)) from FQ (l:=Y) ⟨by omega,by omega⟩ x,Option.bind_some,Option.bind_some]
    rw [show kX F (Y,O,true).2.1 x=some (decide (x ∈ O)) from FQ (l:=O) ⟨by omega,by omega⟩ x,Option.bind_some]
    unfold sm
    by_cases aP:x= 0
    · rw [decide_eq_true aP];rfl
    · by_cases hy:x ∈ Y <;> by_cases av:x ∈ O <;> simp [aP,hy,av,gB]) (fun f=>by rw [nV,bK];rfl) (by omega)
   rw [dQ,NS]
   cases roots.any (sm Y O) <;> rfl
theorem acM {roots:List Int} (h:nv Y O roots= 0):roots.length<= 1000 /\ ∀ a ∈ roots,a= 0 \/a ∈ Y++O:=by
 unfold nv at h
 split at h
 · cases h
 · rename_i I
   split at h
   · cases h
   · rename_i aa
     refine ⟨by omega,fun a aD=>?_⟩
     have:=List.any_eq_false.1 (Bool.eq_false_iff.2 aa) a aD
     unfold sm at this
     by_cases aP:a= 0
     · exact .inl aP
     · by_cases hm:a ∈ Y++O
       · exact .inr hm
       · simp only [Bool.and_eq_true,Bool.not_eq_true',decide_eq_false_iff_not] at this
         exact absurd ⟨aP,hm⟩ this
end
end J
namespace Go.Proofs.YteeliipnilghaaaGreat
open J
section
variable {F:Nat} {k:aQ} {h:aW} {Y O:List Int}
theorem left_eq (g:J.Good F h k Y O):J.aE (J.aE (J.aE (J.aE (h.ar+h.aV)+ 1) - h.a1) - J.aE (h.a3 - 1))=h.ar+h.aV+ 1 - h.a1 - (h.a3 - 1):=by
 obtain ⟨⟨⟨bZ,ed⟩,fX,gr⟩,jR,⟨sj,pc⟩,⟨kn,sk⟩,si⟩:=g.s
 rw [da (n:=h.ar+h.aV) (by omega) (by omega),da (n:=h.ar+h.aV+ 1) (by omega) (by omega),da (n:=h.ar+h.aV+ 1 - h.a1) (by omega) (by omega),da (n:=h.a3 - 1) (by omega) (by omega),da (by omega) (by omega)]
theorem avq (g:J.Good F h k Y O):oa h=some h:=by
 have I:=g.Rq;have aa:=g.s.h6
 unfold oa KF
 rw [hY (by simp;omega),Option.bind_some,hY (by simp;omega)]
 rfl
theorem amI (aI:10000 <F) (g:J.Good F h k Y O) {roots:List Int} (aB:nv Y O roots= 0) (ap:0 <=h.ar+h.aV+ 1 - h.a1 - (h.a3 - 1)) :
 ∃ (t0:Nat) (W:List Int),h.a1=(t0:Int)/\Ord Y (order k h Y roots)/\bH h.Words t0 (order k h Y roots)<=h.Words.length/\Kept h k O t0 (order k h Y roots) W /\
   qk F h.Words h.ar h.aV h.a3 h.a1 h.aY h.Next k.bc k.a8 k.Fields k.Names k.a9 roots=some (((W,h.ar,h.aV,1,((bH h.Words t0 (order k h Y roots):Nat):Int),[],h.Next,()),roots.map (eb (order k h Y roots) (news h.Words t0 (order k h Y roots))),0,()),()):=by
 obtain ⟨aF,hm⟩:=acM aB
 obtain ⟨⟨⟨bZ,ed⟩,fX,gr⟩,jR,⟨sj,pc⟩,⟨kn,sk⟩,si⟩:=id g.s
 obtain ⟨t0,ha⟩:∃ t0:Nat,h.a1=(t0:Int):=⟨h.a1.toNat,by omega⟩
 have PY:h.a1.toNat=t0:=by omega
 have f':∀ cU,Ord Y cU->bH h.Words t0 cU<=h.Words.length:=fun cU iT=>by rw [<-PY];exact ayc g iT ap
 have hz:=J2 g hm
 obtain ⟨W,D,cd,c7,hk,rD,Cq⟩:=run_eq aI g ha f' (roots:=roots) (by omega) hm
 refine ⟨t0,W,ha,hz,f' _ hz,asm g ha hz (f' _ hz) c7 hk rD Cq,?_⟩
 have pn:jE F (⟨h.Words,h.ar,h.aV,h.a3,h.a1,h.aY,h.Next⟩:aW) (⟨k.bc,k.a8,k.Fields,k.Names,k.a9⟩:aQ)=_:=g.open aI
 have sw:xC F (⟨⟨h.Words,h.ar,h.aV,h.a3,h.a1,h.aY,h.Next⟩,⟨⟨k.bc,k.a8,k.Fields,k.Names,k.a9⟩⟩,Y,O,(Y++O).map fun a=>(a,true)⟩:bf) roots=_:=Tf aI g roots
 have an1:oa (⟨h.Words,h.ar,h.aV,h.a3,h.a1,h.aY,h.Next⟩:aW)=_:=avq g
 have Bk:bO 8 [] roots=some roots:=hY (by simp;omega)
 have an6:J.rY F (roots.length:Int)=_:=avz (by omega) aI
 unfold qk
 rw [pn]
 dsimp only [iy,dD,view]
 rw [decide_eq_true (rfl:(0 :Int)= 0),cond_true,sw,Option.bind_some,aB,decide_eq_true (rfl:(0 :Int)= 0),cond_true,left_eq g,decide_eq_false (by omega),cond_false,Bool.not_true,cond_false,an1,Option.bind_some,Bk,Option.bind_some,an6,Option.bind_some]
 rw [cd,Option.bind_some]
theorem amG (aI:10000 <F) {roots:List Int} {r:Option bf × Int} (e:jE F h k=some r) (I:r.1 =none) (aa:r.2 ≠ 0) :
 qk F h.Words h.ar h.aV h.a3 h.a1 h.aY h.Next k.bc k.a8 k.Fields k.Names k.a9 roots=some ((([],0,0,0,0,[],0,()),[],r.2,()),()):=by
 have pn:jE F (⟨h.Words,h.ar,h.aV,h.a3,h.a1,h.aY,h.Next⟩:aW) (⟨k.bc,k.a8,k.Fields,k.Names,k.a9⟩:aQ)=_:=e
 obtain ⟨cd,c7⟩:=r
 obtain rfl:cd=none:=I
 have aa:c7≠ 0 :=aa
 unfold qk
 rw [pn]
 dsimp only [iy,dD]
 rw [decide_eq_false aa,cond_false,cond_false,Bool.not_false,cond_true]
theorem amJ (aI:10000 <F) (g:J.Good F h k Y O) {roots:List Int} (aB:nv Y O roots≠ 0) :
 qk F h.Words h.ar h.aV h.a3 h.a1 h.aY h.Next k.bc k.a8 k.Fields k.Names k.a9 roots=some ((([],0,0,0,0,[],0,()),[],nv Y O roots,()),()):=by
 have pn:jE F (⟨h.Words,h.ar,h.aV,h.a3,h.a1,h.aY,h.Next⟩:aW) (⟨k.bc,k.a8,k.Fields,k.Names,k.a9⟩:aQ)=_:=g.open aI
 have sw:xC F (⟨⟨h.Words,h.ar,h.aV,h.a3,h.a1,h.aY,h.Next⟩,⟨⟨k.bc,k.a8,k.Fields,k.Names,k.a9⟩⟩,Y,O,(Y++O).map fun a=>(a,true)⟩:bf) roots=_:=Tf aI g roots
 unfold qk
 rw [pn]
 dsimp only [iy,dD,view]
 rw [decide_eq_true (rfl:(0 :Int)= 0),cond_true,sw,Option.bind_some,decide_eq_false aB,cond_false,Bool.not_false,cond_true]
theorem amH (aI:10000 <F) (g:J.Good F h k Y O) {roots:List Int} (aB:nv Y O roots= 0) (ap:h.ar+h.aV+ 1 - h.a1 - (h.a3 - 1) < 0) :
 qk F h.Words h.ar h.aV h.a3 h.a1 h.aY h.Next k.bc k.a8 k.Fields k.Names k.a9 roots=some ((([],0,0,0,0,[],0,()),[],8,()),()):=by
 have pn:jE F (⟨h.Words,h.ar,h.aV,h.a3,h.a1,h.aY,h.Next⟩:aW) (⟨k.bc,k.a8,k.Fields,k.Names,k.a9⟩:aQ)=_:=g.open aI
 have sw:xC F (⟨⟨h.Words,h.ar,h.aV,h.a3,h.a1,h.aY,h.Next⟩,⟨⟨k.bc,k.a8,k.Fields,k.Names,k.a9⟩⟩,Y,O,(Y++O).map fun a=>(a,true)⟩:bf) roots=_:=Tf aI g roots
 unfold qk
 rw [pn]
 dsimp only [iy,dD,view]
 rw [decide_eq_true (rfl:(0 :Int)= 0),cond_true,sw,Option.bind_some,aB,decide_eq_true (rfl:(0 :Int)= 0),cond_true,left_eq g,decide_eq_true ap,cond_true]
end
end Go.Proofs.YteeliipnilghaaaGreat
namespace Go.Proofs.YteeliipnilghaaaGreat
open J
structure kg (h:aW) (k:aQ) (L:List Int) (x:aW):Prop where
 oD:L.Nodup
 fJ:∀ a ∈ L,∀ v ∈ fq k h.Words a,v= 0 \/v ∈ L
 len:x.Words.length=h.Words.length
 y:x.ar=h.ar
 o:x.aV=h.aV
 yt:x.a3= 1
 ot:x.a1=((bH h.Words (h.ar+ 1).toNat L:Nat):Int)
 nt:x.aY= []
 nx:x.Next=h.Next
 room:bH h.Words (h.ar+ 1).toNat L<=h.Words.length
 qc:∀ j (az:j <L.length),∀ i,i <sz h.Words L[j]->wd x.Words (bH h.Words (h.ar+ 1).toNat (L.take j)+i)=val k h.Words L (news h.Words (h.ar+ 1).toNat L) L[j].toNat i
 a_:∀ p,p <h.Words.length->(p <(h.ar+ 1).toNat\/bH h.Words (h.ar+ 1).toNat L<=p)->wd x.Words p= 0
theorem B7 {W:List Int}:∀ {L:List Int} {t j:Nat},j <L.length->(news W t L)[j]? =some ((bH W t (L.take j):Nat):Int)
 | [],t,j,h=>by simp at h
 | a::r,t,0,_=>rfl
 | a::r,t,j+ 1,h=>by
   have I:j <r.length:=by simpa using h
   show (news W (t+sz W a) r)[j]? =some ((bH W (t+sz W a) (r.take j):Nat):Int)
   exact B7 I
theorem pos_at:∀ {L:List Int} {j:Nat} (az:j <L.length),L.Nodup->pos L L[j]=some j
 | [],j,az,_=>by simp at az
 | a::r,0,_,_=>by show pos (a::r) a=some 0;rw [pos,if_pos rfl]
 | a::r,j+ 1,az,aF=>by
   have I:j <r.length:=by simpa using az
   have jY:=List.nodup_cons.1 aF
   show pos (a::r) r[j]=some (j+ 1)
   rw [pos,if_neg (fun e=>jY.1 (by rw [e];exact List.getElem_mem I)),pos_at I jY.2]
   rfl
section
variable {F:Nat} {h x:aW} {k:aQ} {Y O L:List Int}
abbrev fC (h:aW) (L:List Int) (v:Int):Int:=eb L (news h.Words (h.ar+ 1).toNat L) v
theorem TJ:fC h L 0 = 0 :=by unfold fC eb;rw [if_pos rfl]
theorem KS (aF:L.Nodup) {j:Nat} (az:j <L.length) (aP:L[j]≠ 0):fC h L L[j]=((bH h.Words (h.ar+ 1).toNat (L.take j):Nat):Int):=by
 unfold fC eb
 rw [if_neg aP,pos_at az aF]
 dsimp only
 rw [B7 az]
 rfl
theorem TI (aF:L.Nodup) {v:Int} (aP:v≠ 0) (af:v ∈ L):fC h L v ∈ news h.Words (h.ar+ 1).toNat L/\((h.ar+ 1).toNat:Int)<=fC h L v:=by
 obtain ⟨j,az,rfl⟩:=List.getElem_of_mem af
 rw [KS aF az aP]
 refine ⟨List.mem_of_getElem? (B7 az),?_⟩
 have:=j9 (W:=h.Words) (o:=L.take j) (t:=(h.ar+ 1).toNat)
 omega
theorem ay7 (aF:L.Nodup) {v w:Int} (cb:v≠ 0) (arC:w≠ 0) (af:v ∈ L) (hw:w ∈ L) (e:fC h L v=fC h L w):v=w:=by
 obtain ⟨j,az,rfl⟩:=List.getElem_of_mem af
 obtain ⟨i,hi,rfl⟩:=List.getElem_of_mem hw
 rw [KS aF az cb,KS aF hi arC] at e
 have:=adz (W:=h.Words) (t:=(h.ar+ 1).toNat) az hi (i:=0) (i':=0) (by unfold sz;omega) (by unfold sz;omega) (by omega)
 subst this
 rfl
theorem aa8 {a:Int} (aD:a ∈ news h.Words (h.ar+ 1).toNat L):∃ j,∃ _:j <L.length,a=((bH h.Words (h.ar+ 1).toNat (L.take j):Nat):Int):=by
 obtain ⟨j,az,rfl⟩:=List.getElem_of_mem aD
 rw [wA] at az
 refine ⟨j,az,?_⟩
 have:=B7 (W:=h.Words) (t:=(h.ar+ 1).toNat) az
 rw [List.getElem?_eq_getElem (by rw [wA];exact az)] at this
 exact Option.some.inj this
theorem azv {W o cq:List Int} {q i:Nat} (hi:i < 3):val k W o cq q i=wd W (q+i):=by
 unfold val
 rw [if_neg (by omega)]
theorem kg.lo (c:kg h k L x) {j:Nat} (az:j <L.length) {i:Nat} (hi:i < 3):wd x.Words (bH h.Words (h.ar+ 1).toNat (L.take j)+i)=wd h.Words (L[j].toNat+i):=by
 rw [c.qc j az i (by unfold sz;omega),azv hi]
theorem kg.hi (c:kg h k L x) {j:Nat} (az:j <L.length) {i:Nat} (hi:i <(wd h.Words (L[j].toNat+ 1)).toNat):wd x.Words (bH h.Words (h.ar+ 1).toNat (L.take j)+ 3 +i)=if eK k (wd h.Words L[j].toNat) i=true then fC h L (wd h.Words (L[j].toNat+ 3 +i)) else wd h.Words (L[j].toNat+ 3 +i):=by
 rw [show bH h.Words (h.ar+ 1).toNat (L.take j)+ 3 +i=bH h.Words (h.ar+ 1).toNat (L.take j)+(3 +i) by omega,c.qc j az (3 +i) (by unfold sz;omega)]
 unfold val
 rw [show 3 +i - 3 =i by omega,show L[j].toNat+(3 +i)=L[j].toNat+ 3 +i by omega]
 by_cases aB:eK k (wd h.Words L[j].toNat) i=true
 · rw [if_pos ⟨by omega,aB⟩,if_pos aB]
 · rw [if_neg (fun e=>aB e.2),if_neg aB]
theorem kg.walk (g:J.Good F h k Y O) (c:kg h k L x) (ao:∀ a ∈ L,a ∈ Y++O):∀ (d j:Nat),j+d=L.length->J.eQ k x.Words (bH h.Words (h.ar+ 1).toNat L) (bH h.Words (h.ar+ 1).toNat (L.take j)) (news h.Words (bH h.Words (h.ar+ 1).toNat (L.take j)) (L.drop j)):=by
 intro d
 induction d with
 | zero=>
   intro j az
   have:j=L.length:=by omega
   subst this
   rw [List.take_length,List.drop_length]
   exact J.eQ.nil
 | succ d bi=>
   intro j az
   have jk:j <L.length:=by omega
   have aD:=ao _ (List.getElem_mem jk)
   obtain ⟨t1,t2⟩:=g.l.zU _ aD
   have cF:=c.lo jk (i:=0) (by omega)
   have ak:=c.lo jk (i:=1) (by omega)
   rw [Nat.add_zero,Nat.add_zero] at cF
   have y4:=KT (W:=h.Words) (t:=(h.ar+ 1).toNat) jk
   have sY:=KU (W:=h.Words) (t:=(h.ar+ 1).toNat) (i:=j+ 1) (o:=L)
   have dI:sz h.Words L[j]= 3 +(wd x.Words (bH h.Words (h.ar+ 1).toNat (L.take j)+ 1)).toNat:=by rw [ak];rfl
   rw [List.drop_eq_getElem_cons jk,news]
   refine J.eQ.cons (by rw [cF];exact t1) (by rw [cF,ak];exact t2) (by omega) ?_
   have:=bi (j+ 1) (by omega)
   rw [y4,dI,show bH h.Words (h.ar+ 1).toNat (L.take j)+(3 +(wd x.Words (bH h.Words (h.ar+ 1).toNat (L.take j)+ 1)).toNat)=bH h.Words (h.ar+ 1).toNat (L.take j)+ 3 +(wd x.Words (bH h.Words (h.ar+ 1).toNat (L.take j)+ 1)).toNat by omega] at this
   rw [dI,show bH h.Words (h.ar+ 1).toNat (L.take j)+(3 +(wd x.Words (bH h.Words (h.ar+ 1).toNat (L.take j)+ 1)).toNat)=bH h.Words (h.ar+ 1).toNat (L.take j)+ 3 +(wd x.Words (bH h.Words (h.ar+ 1).toNat (L.take j)+ 1)).toNat by omega]
   exact this
theorem abj {α β:Type} {f:α->β}:∀ {M L:List α},(M.map f).Nodup->L.Nodup->(∀ a ∈ L,a ∈ M)->(L.map f).Nodup
 | M,[],_,_,_=>List.nodup_nil
 | M,a::r,eB,aF,ao=>by
   have jY:=List.nodup_cons.1 aF
   rw [List.map_cons]
   refine List.nodup_cons.2 ⟨fun hm=>?_,abj eB jY.2 fun b ah=>ao b (List.mem_cons_of_mem _ ah)⟩
   obtain ⟨b,ah,e⟩:=List.mem_map.1 hm
   have yJ:b=a:=by
    obtain ⟨i,hi,ak⟩:=List.getElem_of_mem (ao a List.mem_cons_self)
    obtain ⟨j,az,al⟩:=List.getElem_of_mem (ao b (List.mem_cons_of_mem _ ah))
    have aH:=List.pairwise_iff_getElem.1 (List.nodup_iff_pairwise_ne.1 eB)
    rcases Nat.lt_trichotomy i j with ap | ap | ap
    · exact absurd (by rw [List.getElem_map,List.getElem_map,ak,al,e]) (aH i j (by simpa using hi) (by simpa using az) ap)
    · subst ap;rw [<-ak,<-al]
    · exact absurd (by rw [List.getElem_map,List.getElem_map,ak,al,e]) (aH j i (by simpa using az) (by simpa using hi) ap)
   exact jY.1 (yJ ▸ ah)
theorem kg.apc (g:J.Good F h k Y O) (c:kg h k L x) (ao:∀ a ∈ L,a ∈ Y++O):J.Good F x k [] (news h.Words (h.ar+ 1).toNat L):=by
 obtain ⟨⟨⟨bZ,ed⟩,fX,gr⟩,jR,⟨sj,pc⟩,⟨kn,sk⟩,si⟩:=id g.s
 unfold okB at jR
 have f':=c.room
 have dB:=j9 (W:=h.Words) (o:=L) (t:=(h.ar+ 1).toNat)
 have PN:∀ a ∈ L,a≠ 0 :=fun a aD=>by have:=(g.l.fit g.s a (ao a aD)).1;omega
 have yQ:(news h.Words (h.ar+ 1).toNat L).map (J.ao x.Words)=L.map (J.ao h.Words):=by
  refine List.ext_getElem (by rw [List.length_map,List.length_map,wA]) fun j I aa=>?_
  have az:j <L.length:=by simpa using aa
  rw [List.getElem_map,List.getElem_map]
  have:(news h.Words (h.ar+ 1).toNat L)[j]'(by rw [wA];exact az)=((bH h.Words (h.ar+ 1).toNat (L.take j):Nat):Int):=by
   have:=B7 (W:=h.Words) (t:=(h.ar+ 1).toNat) az
   rw [List.getElem?_eq_getElem (by rw [wA];exact az)] at this
   exact Option.some.inj this
  rw [this]
  unfold J.ao
  rw [Int.toNat_natCast]
  exact c.lo az (by omega)
 have vH:∀ a ∈ news h.Words (h.ar+ 1).toNat L,∀ w ∈ refs k x.Words a.toNat,wd x.Words w.toNat= 0 \/wd x.Words w.toNat ∈ news h.Words (h.ar+ 1).toNat L:=fun a aD w hw=>by
  obtain ⟨j,az,rfl⟩:=aa8 aD
  rw [Int.toNat_natCast] at hw
  obtain ⟨i,I,aa,rfl⟩:=v9.1 hw
  have cF:=c.lo az (i:=0) (by omega)
  have ak:=c.lo az (i:=1) (by omega)
  rw [Nat.add_zero,Nat.add_zero] at cF
  rw [ak] at I
  rw [cF] at aa
  rw [Int.toNat_natCast,c.hi az I,if_pos aa]
  have af:wd h.Words (L[j].toNat+ 3 +i) ∈ fq k h.Words L[j]:=List.mem_map.2 ⟨((L[j].toNat+ 3 +i:Nat):Int),v9.2 ⟨i,I,aa,rfl⟩,by rw [Int.toNat_natCast]⟩
  rcases c.fJ _ (List.getElem_mem az) _ af with e | e
  · rw [e,TJ];exact .inl rfl
  · exact .inr (TI c.oD (PN _ e) e).1
 refine ⟨g.pi,g.ja,⟨?_,?_,?_⟩,⟨?_,?_⟩,?_,?_,?_,?_,?_,?_,?_⟩
 · unfold wD;rw [c.y,c.o];exact ⟨⟨bZ,ed⟩,fX,gr⟩
 · unfold okB;rw [c.y,c.o,c.len];exact jR
 · unfold J.Cb;rw [c.y,c.o,c.yt,c.ot,c.nx];exact ⟨⟨by omega,by omega⟩,⟨by omega,by omega⟩,si⟩
 · rw [c.yt];exact J.eQ.nil
 · rw [c.ot,c.y,Int.toNat_natCast]
   have:=c.walk g ao L.length 0 (by omega)
   rw [List.take_zero,List.drop_zero] at this
   exact this
 · intro a aD
   rw [List.nil_append] at aD
   have hm:J.ao x.Words a ∈ L.map (J.ao h.Words):=by rw [<-yQ];exact List.mem_map_of_mem aD
   obtain ⟨b,ah,e⟩:=List.mem_map.1 hm
   rw [<-e,c.nx]
   exact g.ok.hash b (ao b ah)
 · rw [List.nil_append,yQ]
   exact abj g.ok.nodup c.oD ao
 · intro a aD w hw
   rw [List.nil_append] at aD ⊢
   exact vH a aD w hw
 · intro i hi hc
   rw [c.len] at hi
   rw [c.yt,c.ot,c.y] at hc
   exact c.a_ i hi (by omega)
 · rw [c.nt];intro a b _ ah;simp at ah
 · rw [c.nt];intro a aD;simp at aD
 · intro a aD _ w hw hc
   rw [c.y] at hc
   rcases vH a aD w hw with e | e
   · omega
   · obtain ⟨j,az,al⟩:=aa8 e
     have:=j9 (W:=h.Words) (o:=L.take j) (t:=(h.ar+ 1).toNat)
     omega
end
end Go.Proofs.YteeliipnilghaaaGreat
namespace Go.Proofs.YteeliipnilghaaaGreat
open J
def ju (met:List Int) (a:Int):Int × List Int:=if a= 0 then (0,met) else match pos met a with
 | some i=>((i:Int)+ 1,met)
 | none=>((met.length:Int)+ 1,met++[a])
def i_:List Int->List Int->List Int->List Int × List Int
 | [],met,out=>(met,out)
 | a::r,met,out=>i_ r (ju met a).2 (out++[(ju met a).1])
def hn:List (Bool × Int)->List Int->List Int->List Int × List Int
 | [],met,out=>(met,out)
 | (true,v)::r,met,out=>hn r (ju met v).2 (out++[(ju met v).1])
 | (false,v)::r,met,out=>hn r met (out++[v])
def cells (k:aQ) (W:List Int) (q:Nat):List (Bool × Int):=(List.range (wd W (q+ 1)).toNat).map fun j=>(eK k (wd W q) j,wd W (q+ 3 +j))
def p8 (k:aQ) (W:List Int):Nat->Nat->List Int->List Int->List Int
 | 0,_,_,out=>out
 | d+ 1,i,met,out=>match met[i]? with
   | some a=>p8 k W d (i+ 1) (hn (cells k W a.toNat) met (out++[wd W a.toNat,wd W (a.toNat+ 1),wd W (a.toNat+ 2)])).1 (hn (cells k W a.toNat) met (out++[wd W a.toNat,wd W (a.toNat+ 1),wd W (a.toNat+ 2)])).2
   | none=>out
def ja (k:aQ) (W roots:List Int):List Int:=p8 k W 5001 0 (i_ roots [] []).1 (i_ roots [] []).2
theorem CC {S met:List Int} {a:Int} (h:Ord S met) (aD:a= 0 \/a ∈ S):Ord S (ju met a).2 :=by
 unfold ju
 by_cases aP:a= 0
 · rw [if_pos aP];exact h
 · rw [if_neg aP]
   cases aH:pos met a with
   | some i=>exact h
   | none=>
     have aF:=tN.1 aH
     refine ⟨List.nodup_append.2 ⟨h.oD,by simp,fun b ah c hc e=>?_⟩,fun b ah=>?_⟩
     · cases List.mem_singleton.1 hc
       subst e
       exact aF ah
     · rcases List.mem_append.1 ah with ah | ah
       · exact h.sub b ah
       · cases List.mem_singleton.1 ah
         rcases aD with aD | aD
         · exact absurd aD aP
         · exact aD
theorem ayT {met:List Int} {a:Int}:met.length<=(ju met a).2.length:=by
 unfold ju
 split
 · exact Nat.le_refl _
 · split
   · exact Nat.le_refl _
   · simp
theorem F8 {S:List Int}:∀ {l:List (Bool × Int)} {met out:List Int},Ord S met->(∀ v,(true,v) ∈ l->v= 0 \/v ∈ S)->Ord S (hn l met out).1 /\(hn l met out).2.length=out.length+l.length/\met.length<=(hn l met out).1.length
 | [],met,out,h,_=>⟨h,rfl,Nat.le_refl _⟩
 | (true,v)::r,met,out,h,af=>by
   have:=F8 (l:=r) (met:=(ju met v).2) (out:=out++[(ju met v).1]) (CC h (af v (by simp))) fun w hw=>af w (List.mem_cons_of_mem _ hw)
   have aa:=ayT (met:=met) (a:=v)
   refine ⟨this.1,by rw [hn,this.2.1];simp;omega,by rw [hn];omega⟩
 | (false,v)::r,met,out,h,af=>by
   have:=F8 (l:=r) (met:=met) (out:=out++[v]) h fun w hw=>af w (List.mem_cons_of_mem _ hw)
   exact ⟨this.1,by rw [hn,this.2.1];simp;omega,this.2.2⟩
theorem Tn {S:List Int}:∀ {l met out:List Int},Ord S met->(∀ v ∈ l,v= 0 \/v ∈ S)->Ord S (i_ l met out).1 /\(i_ l met out).2.length=out.length+l.length
 | [],met,out,h,_=>⟨h,rfl⟩
 | v::r,met,out,h,af=>by
   have:=Tn (l:=r) (met:=(ju met v).2) (out:=out++[(ju met v).1]) (CC h (af v (by simp))) fun w hw=>af w (List.mem_cons_of_mem _ hw)
   exact ⟨this.1,by rw [i_,this.2];simp;omega⟩
theorem ac6 {k:aQ} {W S:List Int} (hc:∀ a ∈ S,∀ v,(true,v) ∈ cells k W a.toNat->v= 0 \/v ∈ S) (ap:∀ a ∈ S,(wd W (a.toNat+ 1)).toNat<= 500):∀ {d i:Nat} {met out:List Int},Ord S met->(p8 k W d i met out).length<=out.length+ 503 *d
 | 0,i,met,out,_=>Nat.le_refl _
 | d+ 1,i,met,out,h=>by
   rw [p8]
   cases ad:met[i]? with
   | none=>dsimp only;omega
   | some a=>
     dsimp only
     have aD:=h.sub a (List.mem_of_getElem? ad)
     have I:=F8 (out:=out++[wd W a.toNat,wd W (a.toNat+ 1),wd W (a.toNat+ 2)]) h (hc a aD)
     have aa:=ac6 hc ap (d:=d) (i:=i+ 1) (out:=(hn (cells k W a.toNat) met (out++[wd W a.toNat,wd W (a.toNat+ 1),wd W (a.toNat+ 2)])).2) I.1
     have au:(cells k W a.toNat).length<= 500 :=by unfold cells;rw [List.length_map,List.length_range];exact ap a aD
     have bb:=I.2.1
     simp only [List.length_append,List.length_cons,List.length_nil] at bb
     omega
section
variable {T:Int->Int} {S:List Int}
structure AK (T:Int->Int) (S:List Int):Prop where
 zero:T 0 = 0
 gf:∀ v ∈ S,v≠ 0 ->T v≠ 0
 inj:∀ v ∈ S,∀ w ∈ S,v≠ 0 ->w≠ 0 ->T v=T w->v=w
 Tx:∀ v ∈ S,v≠ 0
theorem abU (dB:AK T S):∀ {met:List Int} {v:Int},(∀ a ∈ met,a ∈ S)->v ∈ S->pos (met.map T) (T v)=pos met v
 | [],v,_,_=>rfl
 | b::r,v,hm,af=>by
   have ah:=hm b List.mem_cons_self
   rw [List.map_cons,pos,pos,abU dB (fun a aD=>hm a (List.mem_cons_of_mem _ aD)) af]
   by_cases e:b=v
   · rw [if_pos e,if_pos (by rw [e])]
   · rw [if_neg e,if_neg (fun h=>e (dB.inj b ah v af (dB.Tx b ah) (dB.Tx v af) h))]
theorem ac_ (dB:AK T S) {met:List Int} {v:Int} (hm:∀ a ∈ met,a ∈ S) (af:v= 0 \/v ∈ S):ju (met.map T) (T v)=((ju met v).1,(ju met v).2.map T):=by
 unfold ju
 by_cases aP:v= 0
 · subst aP
   rw [dB.zero,if_pos rfl,if_pos rfl]
 · have fb:v ∈ S:=af.resolve_left aP
   rw [if_neg (dB.gf v fb aP),if_neg aP,abU dB hm fb]
   cases pos met v with
   | some i=>rfl
   | none=>simp
theorem ac8 (dB:AK T S):∀ {l met out:List Int},Ord S met->(∀ v ∈ l,v= 0 \/v ∈ S)->i_ (l.map T) (met.map T) out=((i_ l met out).1.map T,(i_ l met out).2)
 | [],met,out,_,_=>rfl
 | v::r,met,out,h,af=>by
   have cb:=af v List.mem_cons_self
   rw [List.map_cons,i_,i_,ac_ dB h.sub cb]
   exact ac8 dB (CC h cb) fun w hw=>af w (List.mem_cons_of_mem _ hw)
theorem Tp (dB:AK T S):∀ {l:List (Bool × Int)} {met out:List Int},Ord S met->(∀ v,(true,v) ∈ l->v= 0 \/v ∈ S)->hn (l.map fun p=>(p.1,if p.1 =true then T p.2 else p.2)) (met.map T) out=((hn l met out).1.map T,(hn l met out).2)
 | [],met,out,_,_=>rfl
 | (true,v)::r,met,out,h,af=>by
   have cb:=af v List.mem_cons_self
   rw [List.map_cons]
   show hn ((true,T v)::_) _ _=_
   rw [hn,hn,ac_ dB h.sub cb]
   exact Tp dB (CC h cb) fun w hw=>af w (List.mem_cons_of_mem _ hw)
 | (false,v)::r,met,out,h,af=>by
   rw [List.map_cons]
   show hn ((false,v)::_) _ _=_
   rw [hn,hn]
   exact Tp dB h fun w hw=>af w (List.mem_cons_of_mem _ hw)
theorem ac7 {k:aQ} {W ck:List Int} (dB:AK T S) (hc:∀ a ∈ S,∀ v,(true,v) ∈ cells k W a.toNat->v= 0 \/v ∈ S)
 (au:∀ a ∈ S,wd ck (T a).toNat=wd W a.toNat/\wd ck ((T a).toNat+ 1)=wd W (a.toNat+ 1)/\wd ck ((T a).toNat+ 2)=wd W (a.toNat+ 2)/\cells k ck (T a).toNat=(cells k W a.toNat).map fun p=>(p.1,if p.1 =true then T p.2 else p.2)) :
 ∀ {d i:Nat} {met out:List Int},Ord S met->p8 k ck d i (met.map T) out=p8 k W d i met out
 | 0,i,met,out,_=>rfl
 | d+ 1,i,met,out,h=>by
   rw [p8,p8,List.getElem?_map]
   cases ad:met[i]? with
   | none=>rfl
   | some a=>
     have aD:=h.sub a (List.mem_of_getElem? ad)
     obtain ⟨cF,ak,al,aT⟩:=au a aD
     dsimp only [Option.map_some]
     rw [cF,ak,al,aT,Tp dB h (hc a aD)]
     exact ac7 dB hc au (F8 h (hc a aD)).1
end
end Go.Proofs.YteeliipnilghaaaGreat
namespace Go.Proofs.YteeliipnilghaaaGreat
open J
section
variable {F:Nat} {h x:aW} {k:aQ} {Y O L:List Int}
theorem at' {W:List Int} {q:Nat} {v:Int} (af:(true,v) ∈ cells k W q):∃ i,i <(wd W (q+ 1)).toNat/\eK k (wd W q) i=true/\v=wd W (q+ 3 +i):=by
 unfold cells at af
 obtain ⟨i,hi,e⟩:=List.mem_map.1 af
 exact ⟨i,List.mem_range.1 hi,(Prod.mk.inj e).1,(Prod.mk.inj e).2.symm⟩
theorem WN {W:List Int} {a v:Int} (af:(true,v) ∈ cells k W a.toNat):v ∈ fq k W a:=by
 obtain ⟨i,I,aa,rfl⟩:=at' af
 exact List.mem_map.2 ⟨((a.toNat+ 3 +i:Nat):Int),v9.2 ⟨i,I,aa,rfl⟩,by rw [Int.toNat_natCast]⟩
theorem kg.inj (g:J.Good F h k Y O) (c:kg h k L x) (ao:∀ a ∈ L,a ∈ Y++O):AK (fC h L) L:=by
 have PN:∀ a ∈ L,a≠ 0 :=fun a aD=>by have:=(g.l.fit g.s a (ao a aD)).1;omega
 obtain ⟨⟨⟨bZ,ed⟩,fX,gr⟩,jR,⟨sj,pc⟩,⟨kn,sk⟩,si⟩:=id g.s
 exact ⟨TJ,fun v af aP e=>by have:=(TI (h:=h) c.oD aP af).2;omega,fun v af w hw I aa e=>ay7 c.oD I aa af hw e,PN⟩
theorem kg.cells (g:J.Good F h k Y O) (c:kg h k L x) (ao:∀ a ∈ L,a ∈ Y++O):∀ a ∈ L,wd x.Words (fC h L a).toNat=wd h.Words a.toNat/\wd x.Words ((fC h L a).toNat+ 1)=wd h.Words (a.toNat+ 1)/\wd x.Words ((fC h L a).toNat+ 2)=wd h.Words (a.toNat+ 2)/\Go.Proofs.YteeliipnilghaaaGreat.cells k x.Words (fC h L a).toNat=(Go.Proofs.YteeliipnilghaaaGreat.cells k h.Words a.toNat).map fun p=>(p.1,if p.1 =true then fC h L p.2 else p.2):=fun a aD=>by
 obtain ⟨j,az,rfl⟩:=List.getElem_of_mem aD
 have aP:L[j]≠ 0 :=by have:=(g.l.fit g.s _ (ao _ aD)).1;omega
 have cF:=c.lo az (i:=0) (by omega)
 have ak:=c.lo az (i:=1) (by omega)
 have al:=c.lo az (i:=2) (by omega)
 rw [Nat.add_zero,Nat.add_zero] at cF
 rw [KS c.oD az aP,Int.toNat_natCast]
 refine ⟨cF,ak,al,?_⟩
 unfold Go.Proofs.YteeliipnilghaaaGreat.cells
 rw [cF,ak,List.map_map]
 refine List.map_congr_left fun i hi=>?_
 have hi:=List.mem_range.1 hi
 rw [c.hi az hi]
 rfl
theorem kg.shape (g:J.Good F h k Y O) (c:kg h k L x) (ao:∀ a ∈ L,a ∈ Y++O) {roots:List Int} (aB:∀ v ∈ roots,v= 0 \/v ∈ L):ja k x.Words (roots.map (fC h L))=ja k h.Words roots:=by
 have dB:=c.inj g ao
 have eV:=ac8 dB (l:=roots) (met:=[]) (out:=[]) Ord.nil aB
 rw [List.map_nil] at eV
 unfold ja
 rw [eV]
 exact ac7 dB (fun a aD v af=>c.fJ a aD v (WN af)) (c.cells g ao) (Tn Ord.nil aB).1
end
end Go.Proofs.YteeliipnilghaaaGreat
namespace Go.Proofs.YteeliipnilghaaaGreat
open J
section
variable {F:Nat} {h:aW} {k:aQ} {Y O:List Int} {W nt:List Int} {y ol yt ot nx:Int}
theorem DB {α:Type} {l m:List α} (ap:l.length<= 10000000) (hm:m.length<= 3):bO 8 l m=some (l++m):=by unfold bO;rw [if_pos (by omega)]
theorem ac9 (aI:10000 <F) {met:List Int} {a:Int} (hm:met.length<= 5000):uL F a met=some (((ju met a).1,()),((),()),(ju met a).2,()):=by
 unfold uL ju
 by_cases aP:a= 0
 · rw [decide_eq_true aP,cond_true,if_pos aP]
 · rw [decide_eq_false aP,cond_false,if_neg aP,avx hm aI,Option.bind_some]
   cases aH:pos met a with
   | some i=>
     have hi:=(List.getElem?_eq_some_iff.1 (FG aH)).1
     have m4:i<= 100000 :=by omega
     dsimp only
     rw [decide_eq_false (by omega),cond_false,kN m4]
     rfl
   | none=>
     dsimp only
     have ak:(((met++[a]).length:Nat):Int) - 1 =((met.length:Nat):Int):=by rw [List.length_append,List.length_singleton];omega
     have PG:met.length<= 100000 :=by omega
     have yX:J.aE ((met.length:Nat):Int)=((met.length:Nat):Int):=da (by omega) (by omega)
     rw [decide_eq_true (by omega),cond_true,DB (by omega) (by simp),Option.bind_some,ak,yX,kN PG]
     rfl
theorem ayS {S l:List Int} (aI:10000 <F) (fb:S.length<= 5000) (ap:l.length<= 5000) (af:∀ v ∈ l,v= 0 \/v ∈ S):∀ (d i f:Nat) (met out:List Int),i+d=l.length->d <f->Ord S met->out.length=i ->
 xK F f l (i:Int) W y ol yt ot nt nx k.bc k.a8 k.Fields k.Names k.a9 met out=some (((),(),(),(),((),()),()),(W,y,ol,yt,ot,nt,nx,()),(k.bc,k.a8,k.Fields,k.Names,k.a9,()),((),()),(i_ (l.drop i) met out).1,(i_ (l.drop i) met out).2,()):=by
 intro d
 induction d with
 | zero=>
   intro i f met out h ag av BK
   obtain ⟨f,rfl⟩:∃ b8,f=b8+ 1 :=⟨f - 1,by omega⟩
   have:i=l.length:=by omega
   subst this
   rw [xK,bK,cond_false,List.drop_length]
   rfl
 | succ d bi=>
   intro i f met out h ag av BK
   obtain ⟨f,rfl⟩:∃ b8,f=b8+ 1 :=⟨f - 1,by omega⟩
   have hi:i <l.length:=by omega
   have m4:i<= 100000 :=by omega
   have hm:=av.len
   rw [xK,bL hi,cond_true,bt (List.getElem?_eq_getElem hi),Option.bind_some,ac9 aI (by omega),Option.bind_some,DB (by omega) (by simp),Option.bind_some,kN m4]
   dsimp only
   rw [bi (i+ 1) f _ _ (by omega) (by omega) (CC av (af _ (List.getElem_mem hi))) (by rw [List.length_append,BK];rfl),List.drop_eq_getElem_cons hi,i_]
theorem ayU (aI:10000 <F) (ai:fV k) {S:List Int} (fb:S.length<= 5000) {q len:Nat} {m:Int} (aS:q+ 3 +len<=W.length) (g9:W.length<= 5000) (hlen:wd W (q+ 1)=(len:Int)) (aM:gR k (wd W q)=true) (aF:isLen k (wd W q) (wd W (q+ 1))=true)
 (hc:∀ v,(true,v) ∈ cells k W q->v= 0 \/v ∈ S):∀ (d i f:Nat) (met out:List Int),i+d=len->d <f->Ord S met->out.length+d<= 5000000 ->
 uM F f m (q:Int) (i:Int) W y ol yt ot nt nx k.bc k.a8 k.Fields k.Names k.a9 met out=some (((),(),(),(),((),()),m,()),(W,y,ol,yt,ot,nt,nx,()),(k.bc,k.a8,k.Fields,k.Names,k.a9,()),((),()),(hn ((cells k W q).drop i) met out).1,(hn ((cells k W q).drop i) met out).2,()):=by
 intro d
 have m7:q<= 100000 :=by omega
 have sS:q+ 1 <W.length:=by omega
 have hL:(cells k W q).length=len:=by unfold cells;rw [List.length_map,List.length_range,hlen,Int.toNat_natCast]
 induction d with
 | zero=>
   intro i f met out h ag av BK
   obtain ⟨f,rfl⟩:∃ b8,f=b8+ 1 :=⟨f - 1,by omega⟩
   have:i=len:=by omega
   subst this
   rw [uM,kN m7,gb sS,Option.bind_some,hlen,bK,cond_false,List.drop_eq_nil_of_le (by omega)]
   rfl
 | succ d bi=>
   intro i f met out h ag av BK
   obtain ⟨f,rfl⟩:∃ b8,f=b8+ 1 :=⟨f - 1,by omega⟩
   have hi:i <len:=by omega
   have m4:i<= 100000 :=by omega
   have aq4:q+ 3 <= 100000 :=by omega
   have aq5:q+ 3 +i<= 100000 :=by omega
   have yU:q+ 3 +i <W.length:=by omega
   have k9:q <W.length:=by omega
   have hm:=av.len
   have aN:(cells k W q).drop i=(eK k (wd W q) i,wd W (q+ 3 +i))::(cells k W q).drop (i+ 1):=by
    unfold cells
    rw [hlen,Int.toNat_natCast,List.drop_eq_getElem_cons (by simpa using hi),List.getElem_map,List.getElem_range]
   have vH:qC (aQ.mk k.bc k.a8 k.Fields k.Names k.a9) (wd W q) (i:Int)=some (eK k (wd W q) i):=acv ai aM (by rw [hlen] at aF;exact aF) (by omega)
   rw [uM,kN m7,gb sS,Option.bind_some,hlen,bL hi,cond_true,show J.aE ((q:Int)+ 3)=((q+ 3 :Nat):Int) from nD (b:=3) aq4,nD aq5,gb yU,Option.bind_some,gb k9,Option.bind_some,vH,Option.bind_some,kN m4,aN]
   cases aB:eK k (wd W q) i with
   | true=>
     rw [cond_true,ac9 aI (by omega),Option.bind_some,DB (by omega) (by simp),Option.bind_some]
     dsimp only
     rw [bi (i+ 1) f _ _ (by omega) (by omega) (CC av (hc _ (by rw [<-aB];exact List.mem_of_mem_drop (i:=i) (by rw [aN];exact List.mem_cons_self)))) (by rw [List.length_append,List.length_singleton];omega),hn]
   | false=>
     rw [cond_false,DB (by omega) (by simp),Option.bind_some]
     rw [bi (i+ 1) f _ _ (by omega) (by omega) av (by rw [List.length_append,List.length_singleton];omega),hn]
theorem ayR (aI:10000 <F) (ai:fV k) {S:List Int} (fb:S.length<= 5000) (g9:W.length<= 5000)
 (ars:∀ a ∈ S,1 <=a/\a.toNat+ 3 +(wd W (a.toNat+ 1)).toNat<=W.length/\gR k (wd W a.toNat)=true/\isLen k (wd W a.toNat) (wd W (a.toNat+ 1))=true/\ ∀ v,(true,v) ∈ cells k W a.toNat->v= 0 \/v ∈ S) :
 ∀ (d i f:Nat) (met out:List Int),S.length <i+d->d <f->i<=met.length->Ord S met->out.length<= 1000 + 503 *i ->
 ∃ Jw,qq F f (i:Int) W y ol yt ot nt nx k.bc k.a8 k.Fields k.Names k.a9 met out=some (((),()),(W,y,ol,yt,ot,nt,nx,()),(k.bc,k.a8,k.Fields,k.Names,k.a9,()),((),()),Jw,p8 k W d i met out,()):=by
 intro d
 induction d with
 | zero=>
   intro i f met out h ag hi av
   have:=av.len
   omega
 | succ d bi=>
   intro i f met out h ag hi av BK
   obtain ⟨f,rfl⟩:∃ b8,f=b8+ 1 :=⟨f - 1,by omega⟩
   have hm:=av.len
   rcases Nat.lt_or_ge i met.length with cn | cn
   · have m4:i<= 100000 :=by omega
     have ad:met[i]? =some met[i]:=List.getElem?_eq_getElem cn
     obtain ⟨I,aa,au,bb,c0⟩:=ars _ (av.sub _ (List.getElem_mem cn))
     obtain ⟨q,aS⟩:∃ q:Nat,met[i]=(q:Int):=⟨met[i].toNat,by omega⟩
     rw [aS,Int.toNat_natCast] at aa au bb c0
     have k9:=(oi.1 bb).1
     obtain ⟨len,hlen⟩:∃ len:Nat,wd W (q+ 1)=(len:Int):=⟨(wd W (q+ 1)).toNat,by omega⟩
     have m7:q<= 100000 :=by omega
     have q4:q+ 2 <= 100000 :=by omega
     have sS:q <W.length:=by omega
     have yT:q+ 1 <W.length:=by omega
     have yU:q+ 2 <W.length:=by omega
     have PE:q+ 3 +len<=W.length:=by omega
     have aEa:len<= 500 :=by omega
     have hL:(cells k W q).length=len:=by unfold cells;rw [List.length_map,List.length_range,hlen,Int.toNat_natCast]
     have bU:=ayU (F:=F) (y:=y) (ol:=ol) (yt:=yt) (ot:=ot) (nt:=nt) (nx:=nx) (m:=(i:Int)) aI ai fb PE g9 hlen au bb c0 len 0 F met (out++[wd W q,wd W (q+ 1),wd W (q+ 2)]) (by omega) (by omega) av (by rw [List.length_append];simp only [List.length_cons,List.length_nil];omega)
     rw [List.drop_zero] at bU
     have anQ:uM F F (i:Int) (q:Int) 0 W y ol yt ot nt nx k.bc k.a8 k.Fields k.Names k.a9 met (out++[wd W q,wd W (q+ 1),wd W (q+ 2)])=_:=bU
     have y0:=F8 (l:=cells k W q) (out:=out++[wd W q,wd W (q+ 1),wd W (q+ 2)]) av c0
     obtain ⟨Jw,dn⟩:=bi (i+ 1) f _ (hn (cells k W q) met (out++[wd W q,wd W (q+ 1),wd W (q+ 2)])).2 (by omega) (by omega) (by have:=y0.2.2;omega) y0.1 (by
      rw [y0.2.1,hL,List.length_append]
      simp only [List.length_cons,List.length_nil]
      omega)
     refine ⟨Jw,?_⟩
     rw [qq,bL cn,cond_true,bt ad,Option.bind_some,aS,gb sS,Option.bind_some,kN m7,gb yT,Option.bind_some,show J.aE ((q:Int)+ 2)=((q+ 2 :Nat):Int) from nD (b:=2) q4,gb yU,Option.bind_some,DB (by omega) (by simp),Option.bind_some,anQ,Option.bind_some]
     dsimp only
     rw [kN m4,dn,p8,ad]
     dsimp only
     rw [aS,Int.toNat_natCast]
   · have:i=met.length:=by omega
     subst this
     refine ⟨met,?_⟩
     rw [qq,bK,cond_false,p8,List.getElem?_eq_none (Nat.le_refl _)]
theorem ac' (aI:10000 <F) (g:J.Good F h k Y O) {roots:List Int} (ap:roots.length<= 1000) (aB:∀ v ∈ roots,v= 0 \/v ∈ Y++O) :
 uK F h.Words h.ar h.aV h.a3 h.a1 h.aY h.Next k.bc k.a8 k.Fields k.Names k.a9 roots=some ((ja k h.Words roots,()),())/\(ja k h.Words roots).length<= 3000000 :=by
 have Eg:=g.s.h6
 have fb:(Y++O).length<= 5000 :=by
  have:Y.length+O.length<= 5000 :=(g.l.qb g.ja g.s).n4
  rw [List.length_append];exact this
 have hL:∀ a ∈ Y++O,∀ v,(true,v) ∈ cells k h.Words a.toNat->v= 0 \/v ∈ Y++O:=fun a aD v af=>wO g aD v (WN af)
 have cF:=ayS (F:=F) (W:=h.Words) (y:=h.ar) (ol:=h.aV) (yt:=h.a3) (ot:=h.a1) (nt:=h.aY) (nx:=h.Next) (k:=k) aI fb (by omega) aB roots.length 0 F [] [] (by omega) (by omega) Ord.nil rfl
 rw [List.drop_zero] at cF
 have ana:xK F F roots 0 h.Words h.ar h.aV h.a3 h.a1 h.aY h.Next k.bc k.a8 k.Fields k.Names k.a9 [] []=_:=cF
 have y0:=Tn (S:=Y++O) (l:=roots) (met:=[]) (out:=[]) Ord.nil aB
 have BK:(i_ roots [] []).2.length<= 1000 :=by rw [y0.2];simpa using ap
 obtain ⟨Jw,al⟩:=ayR (F:=F) (W:=h.Words) (y:=h.ar) (ol:=h.aV) (yt:=h.a3) (ot:=h.a1) (nt:=h.aY) (nx:=h.Next) (k:=k) aI g.ja fb (by omega) (fun a aD=>by
  obtain ⟨f1,f2,_⟩:=g.l.fit g.s a aD
  obtain ⟨t1,t2⟩:=g.l.zU a aD
  exact ⟨f1,f2,t1,t2,hL a aD⟩) 5001 0 F (i_ roots [] []).1 (i_ roots [] []).2 (by omega) (by omega) (Nat.zero_le _) y0.1 (by omega)
 have anx:qq F F 0 h.Words h.ar h.aV h.a3 h.a1 h.aY h.Next k.bc k.a8 k.Fields k.Names k.a9 (i_ roots [] []).1 (i_ roots [] []).2 =_:=al
 refine ⟨?_,?_⟩
 · unfold uK
   rw [ana,Option.bind_some]
   dsimp only
   rw [anx,Option.bind_some]
   rfl
 · have:=ac6 (k:=k) (W:=h.Words) (S:=Y++O) hL (fun a aD=>by
    have:=(oi.1 (g.l.zU a aD).2).1
    omega) (d:=5001) (i:=0) (out:=(i_ roots [] []).2) y0.1
   unfold ja
   omega
end
end Go.Proofs.YteeliipnilghaaaGreat
namespace Go.Proofs.YteeliipnilghaaaGreat
open J
theorem abV {o:List Int} {v:Int}:∀ {A:List Int},v ∉ A->pos (A++o) v=(pos o v).map (A.length+ ·)
 | [],_=>by simp
 | b::r,h=>by
   simp only [List.mem_cons,not_or] at h
   rw [List.cons_append,pos,if_neg (fun e=>h.1 e.symm),abV h.2,Option.map_map,List.length_cons]
   cases pos o v with
   | none=>rfl
   | some i=>simp;omega
theorem abT {o:List Int} {v:Int}:∀ {A:List Int} {j:Nat},pos A v=some j->pos (A++o) v=some j
 | [],j,h=>by simp [pos] at h
 | b::r,j,h=>by
   rw [List.cons_append,pos]
   rw [pos] at h
   by_cases e:b=v
   · rw [if_pos e] at h ⊢;exact h
   · rw [if_neg e] at h ⊢
     obtain ⟨i,I,rfl⟩:=Option.map_eq_some_iff.1 h
     rw [abT I];rfl
theorem auG {k:aQ} {W:List Int} {to q:Nat} {L:List Int} (h:J.eQ k W to q L):news W q L=L/\bH W q L=to:=by
 induction h with
 | nil=>exact ⟨rfl,rfl⟩
 | @cons q r I aa au bb bi=>
   have ao:sz W (q:Int)= 3 +(wd W (q+ 1)).toNat:=by unfold sz;rw [Int.toNat_natCast]
   rw [news,bH,ao,show q+(3 +(wd W (q+ 1)).toNat)=q+ 3 +(wd W (q+ 1)).toNat by omega,bi.1,bi.2]
   exact ⟨rfl,rfl⟩
theorem aa7 {W:List Int} {p:List Int}:∀ {o:List Int} {t:Nat},news W t (o++p)=news W t o++news W (bH W t o) p
 | [],t=>rfl
 | a::r,t=>by simp [news,bH,aa7 (o:=r)]
theorem azi {W O o:List Int} {q t:Nat} (I:news W q O=O) (aa:bH W q O=t) (aN:∀ v ∈ O,v ∉ o) {v:Int}:eb (O++o) (news W q (O++o)) v=eb o (news W t o) v:=by
 rw [aa7,I,aa]
 unfold eb
 by_cases aP:v= 0
 · rw [if_pos aP,if_pos aP]
 · rw [if_neg aP,if_neg aP]
   by_cases af:v ∈ O
   · obtain ⟨j,az⟩:∃ j,pos O v=some j:=by
      cases aH:pos O v with
      | none=>exact absurd af (tN.1 aH)
      | some j=>exact ⟨j,rfl⟩
     have ao:=FG az
     have bx:=(List.getElem?_eq_some_iff.1 ao).1
     rw [abT az,tN.2 (aN v af)]
     dsimp only
     rw [List.getElem?_append_left bx,ao]
     rfl
   · rw [abV af]
     cases aH:pos o v with
     | none=>rfl
     | some j=>
       dsimp only [Option.map_some]
       rw [List.getElem?_append_right (by omega),show O.length+j - O.length=j by omega]
section
variable {F:Nat} {h:aW} {k:aQ} {Y O:List Int}
theorem azz {W:List Int} {to q:Nat} {L:List Int} (h:J.eQ k W to q L):(∀ a ∈ L,(q:Int)<=a)/\L.Nodup:=by
 induction h with
 | nil=>exact ⟨fun a aD=>by simp at aD,List.nodup_nil⟩
 | @cons q r I aa au bb bi=>
   refine ⟨fun a aD=>?_,List.nodup_cons.2 ⟨fun hm=>?_,bi.2⟩⟩
   · rcases List.mem_cons.1 aD with rfl | aD
     · exact Int.le_refl _
     · have:=bi.1 a aD;omega
   · have:=bi.1 _ hm;omega
theorem acY (ay:∀ a ∈ Y,∀ v ∈ fq k h.Words a,v= 0 \/v ∈ Y++O) (g:J.Good F h k Y O):∀ {d i:Nat} {o:List Int},Y.length <i+d->Ord Y o->(∀ j a,j <i->o[j]? =some a-> ∀ v ∈ fq k h.Words a,1 <=v->v<=h.ar->v ∈ o) ->
 ∀ a ∈ scan k h.Words h.ar d i o,∀ v ∈ fq k h.Words a,1 <=v->v<=h.ar->v ∈ scan k h.Words h.ar d i o
 | 0,i,o,aN,av,hc=>fun a aD v af I aa=>by
   obtain ⟨j,az,e⟩:=List.getElem_of_mem (show a ∈ o from aD)
   have:=av.len
   exact hc j a (by omega) (by rw [List.getElem?_eq_getElem az,e]) v af I aa
 | d+ 1,i,o,aN,av,hc=>by
   rw [scan]
   cases ad:o[i]? with
   | none=>
     dsimp only
     intro a aD v af I aa
     obtain ⟨j,az,e⟩:=List.getElem_of_mem aD
     have:=List.getElem?_eq_none_iff.1 ad
     exact hc j a (by omega) (by rw [List.getElem?_eq_getElem az,e]) v af I aa
   | some b=>
     dsimp only
     have ah:=av.sub b (List.mem_of_getElem? ad)
     obtain ⟨t,aM⟩:=yA (y:=h.ar) (l:=fq k h.Words b) (o:=o)
     have cn:=(List.getElem?_eq_some_iff.1 ad).1
     refine acY ay g (by omega) (av.fold fun v af=>ux g (ay b ah v af)) fun j a az aD v af I aa=>?_
     by_cases e:j=i
     · subst e
       have:a=b:=by
        rw [aM,List.getElem?_append_left cn,ad] at aD
        exact (Option.some.inj aD).symm
       subst this
       exact DX af I aa
     · rw [aM,List.getElem?_append_left (by omega)] at aD
       rw [aM]
       exact List.mem_append_left _ (hc j a (by omega) aD v af I aa)
theorem ac0 {W:List Int} {y:Int}:∀ {d i:Nat} {o:List Int},∃ t,scan k W y d i o=o++t
 | 0,i,o=>⟨[],by simp [scan]⟩
 | d+ 1,i,o=>by
   rw [scan]
   cases o[i]? with
   | none=>exact ⟨[],by simp⟩
   | some a=>
     obtain ⟨t,aM⟩:=yA (y:=y) (l:=fq k W a) (o:=o)
     obtain ⟨u,hu⟩:=ac0 (W:=W) (y:=y) (d:=d) (i:=i+ 1) (o:=(fq k W a).foldl (cK y) o)
     exact ⟨t++u,by dsimp only;rw [hu,aM,List.append_assoc]⟩
theorem aan (g:J.Good F h k Y O) {roots:List Int} (aB:∀ a ∈ roots,a= 0 \/a ∈ Y++O):(∀ a ∈ O++order k h Y roots,∀ v ∈ fq k h.Words a,v= 0 \/v ∈ O++order k h Y roots)/\ ∀ v ∈ roots,v= 0 \/v ∈ O++order k h Y roots:=by
 have Ed:=RC g aB
 obtain ⟨t,aM⟩:=ac0 (k:=k) (W:=h.Words) (y:=h.ar) (d:=Y.length+ 1) (i:=0) (o:=(h.aY.flatMap (fq k h.Words)).foldl (cK h.ar) (roots.foldl (cK h.ar) []))
 have ER:=acY (fun a aD v af=>wO g (List.mem_append_left O aD) v af) g (d:=Y.length+ 1) (i:=0) (by omega) Ed (fun j a az=>by omega)
 have f_:∀ v,v= 0 \/v ∈ Y++O->(1 <=v->v<=h.ar->v ∈ order k h Y roots)->v= 0 \/v ∈ O++order k h Y roots:=fun v af hc=>by
  rcases af with e | e
  · exact .inl e
  · rcases List.mem_append.1 e with e | e
    · have:=xB g e
      have au:3 <=sz h.Words v:=by unfold sz;omega
      exact .inr (List.mem_append_right _ (hc this.1 (by omega)))
    · exact .inr (List.mem_append_left _ e)
 refine ⟨fun a aD v af=>?_,fun v af=>?_⟩
 · rcases List.mem_append.1 aD with aD | aD
   · refine f_ v (wO g (List.mem_append_right Y aD) v af) fun I aa=>?_
     have aF:a ∈ h.aY:=Classical.byContradiction fun aF=>by
      obtain ⟨w,hw,e⟩:=List.mem_map.1 af
      exact g.ok.must a aD aF w hw (by rw [e];omega)
     show v ∈ scan k h.Words h.ar (Y.length+ 1) 0 _
     rw [aM]
     exact List.mem_append_left _ (DX (List.mem_flatMap.2 ⟨a,aF,af⟩) I aa)
   · exact f_ v (wO g (List.mem_append_left O ((J2 g aB).sub a aD)) v af) fun I aa=>ER a aD v af I aa
 · refine f_ v (aB v af) fun I aa=>?_
   show v ∈ scan k h.Words h.ar (Y.length+ 1) 0 _
   rw [aM]
   obtain ⟨u,hu⟩:=yA (y:=h.ar) (l:=h.aY.flatMap (fq k h.Words)) (o:=roots.foldl (cK h.ar) [])
   rw [hu]
   exact List.mem_append_left _ (List.mem_append_left _ (DX af I aa))
theorem amL (g:J.Good F h k Y O) {t0:Nat} (ha:h.a1=(t0:Int)) {roots e1:List Int} (aB:∀ a ∈ roots,a= 0 \/a ∈ Y++O) (f':bH h.Words t0 (order k h Y roots)<=h.Words.length) (ai:Kept h k O t0 (order k h Y roots) e1) :
 kg h k (O++order k h Y roots) ⟨e1,h.ar,h.aV,1,((bH h.Words t0 (order k h Y roots):Nat):Int),[],h.Next⟩/\(∀ v,eb (order k h Y roots) (news h.Words t0 (order k h Y roots)) v=fC h (O++order k h Y roots) v)/\ ∀ a ∈ O++order k h Y roots,a ∈ Y++O:=by
 have hOr:=J2 g aB
 have P5:=g.l.o
 rw [ha,Int.toNat_natCast] at P5
 obtain ⟨tB,rm⟩:=auG P5
 have aqJ:∀ v ∈ Y,v<=h.ar:=fun v af=>by
  have:=xB g af
  have au:3 <=sz h.Words v:=by unfold sz;omega
  omega
 have Zl:∀ v ∈ O,v ∉ order k h Y roots:=fun v af hm=>by
  have I:=(g.l.js g.s v af).1
  have aa:=aqJ v (hOr.sub v hm)
  omega
 have BN:∀ v,eb (order k h Y roots) (news h.Words t0 (order k h Y roots)) v=fC h (O++order k h Y roots) v:=fun v=>(azi tB rm Zl).symm
 have vI:bH h.Words (h.ar+ 1).toNat (O++order k h Y roots)=bH h.Words t0 (order k h Y roots):=by rw [CK,rm]
 have og:∀ q i,val k h.Words (order k h Y roots) (news h.Words t0 (order k h Y roots)) q i=val k h.Words (O++order k h Y roots) (news h.Words (h.ar+ 1).toNat (O++order k h Y roots)) q i:=fun q i=>by
  unfold val
  rw [BN]
 refine ⟨⟨?_,(aan g aB).1,ai.len,rfl,rfl,rfl,by rw [vI],rfl,rfl,by rw [vI];exact f',fun j az i hi=>?_,fun p aH hc=>?_⟩,BN,fun a aD=>?_⟩
 · exact List.nodup_append.2 ⟨(azz P5).2,hOr.oD,fun a aD b ah e=>Zl a aD (e ▸ ah)⟩
 · rw [<-og]
   by_cases IR:j <O.length
   · have ak:(O++order k h Y roots)[j]=O[j]:=List.getElem_append_left IR
     have al:bH h.Words (h.ar+ 1).toNat ((O++order k h Y roots).take j)=O[j].toNat:=by
      rw [List.take_append_of_le_length (by omega)]
      have:=B7 (W:=h.Words) (t:=(h.ar+ 1).toNat) IR
      rw [tB,List.getElem?_eq_getElem IR] at this
      have:=Option.some.inj this
      omega
     rw [ak] at hi ⊢
     rw [al]
     exact ai.js _ (List.getElem_mem IR) i hi
   · have sQ:j - O.length <(order k h Y roots).length:=by rw [List.length_append] at az;omega
     have ak:(O++order k h Y roots)[j]=(order k h Y roots)[j - O.length]:=List.getElem_append_right (by omega)
     have al:bH h.Words (h.ar+ 1).toNat ((O++order k h Y roots).take j)=bH h.Words t0 ((order k h Y roots).take (j - O.length)):=by
      rw [List.take_append,List.take_of_length_le (by omega),CK,rm]
     rw [ak] at hi ⊢
     rw [al]
     exact ai.new _ sQ i hi
 · rw [vI] at hc
   exact ai.a_ p aH hc
 · rcases List.mem_append.1 aD with aD | aD
   · exact List.mem_append_right _ aD
   · exact List.mem_append_left _ (hOr.sub a aD)
end
end Go.Proofs.YteeliipnilghaaaGreat
namespace Go.Proofs.YteeliipnilghaaaGreat
open J
section
variable {F:Nat} {h x:aW} {k:aQ} {Y O L:List Int}
theorem alV (aI:10000 <F) (O3:3000000 <F) (g:J.Good F h k Y O) (qW:∃ e,mi F k=some e/\qA F k=some e/\(e≠ 0 \/(e= 0 /\fV k))) (aqW:h.Next<= 9223372036854775807) (c:kg h k L x) (ao:∀ a ∈ L,a ∈ Y++O) {roots:List Int} (ap:roots.length<= 1000) (aB:∀ v ∈ roots,v= 0 \/v ∈ L) :
 Dm F h.Words h.ar h.aV h.a3 h.a1 h.aY h.Next k.bc k.a8 k.Fields k.Names k.a9 roots x.Words x.ar x.aV x.a3 x.a1 x.aY x.Next (roots.map (fC h L))=some ((true,()),()):=by
 have O0:=c.apc g ao
 have hi:=c.inj g ao
 have qQ:∀ v ∈ roots.map (fC h L),v= 0 \/v ∈ []++news h.Words (h.ar+ 1).toNat L:=fun v af=>by
  obtain ⟨w,hw,rfl⟩:=List.mem_map.1 af
  rcases aB w hw with e | e
  · rw [e,TJ];exact .inl rfl
  · exact .inr (TI c.oD (hi.Tx w e) e).1
 obtain ⟨r,ak,al,hc⟩:=abx (h:=x) aI qW (by rw [c.nt];exact ⟨by simp,by simp;omega⟩) (by rw [c.nx];exact aqW)
 have aq8:r.2 = 0 :=by
  have:=O0.open aI
  rw [this] at ak
  obtain rfl:=Option.some.inj ak
  rfl
 rw [aq8] at al
 have pn:uX F (aW.mk x.Words x.ar x.aV x.a3 x.a1 x.aY x.Next) (aQ.mk k.bc k.a8 k.Fields k.Names k.a9)=_:=al
 have PD:(roots.map (fC h L)).length=roots.length:=List.length_map _
 have aj:nv [] (news h.Words (h.ar+ 1).toNat L) (roots.map (fC h L))= 0 :=by
  unfold nv
  rw [if_neg (by rw [PD];omega),if_neg]
  intro aD
  obtain ⟨v,af,ah⟩:=List.any_eq_true.1 aD
  unfold sm at ah
  rcases qQ v af with e | e
  · rw [decide_eq_true e] at ah;cases ah
  · rw [decide_eq_true e,Bool.not_true,Bool.and_false] at ah;cases ah
 have sw:uV F (aW.mk x.Words x.ar x.aV x.a3 x.a1 x.aY x.Next) (aQ.mk k.bc k.a8 k.Fields k.Names k.a9) (roots.map (fC h L))=_:=ayd aI O0 (roots.map (fC h L))
 obtain ⟨s1,s2⟩:=ac' aI g ap (fun v af=>(aB v af).imp id (ao v))
 obtain ⟨t1,_⟩:=ac' aI O0 (roots:=roots.map (fC h L)) (by rw [PD];exact ap) qQ
 rw [c.shape g ao aB] at t1
 unfold Dm
 rw [pn,Option.bind_some,decide_eq_true (rfl:(0 :Int)= 0),cond_true,sw,Option.bind_some,aj,PD,decide_eq_true (rfl:(0 :Int)= 0),decide_eq_true (rfl:(roots.length:Int)=roots.length),Bool.and_self,cond_true,s1,Option.bind_some,t1,Option.bind_some]
 dsimp only
 rw [ayE ⟨by omega,by omega⟩,Option.bind_some]
end
theorem avB (h:aW) (aP:VQ Go.reachBytes h) (k:aQ) (I:Hr Go.reachBytes k) (roots:List Int) (_:roots.length* 8 <=Go.reachBytes/\ ∀ x ∈ roots,ax.iL x) :
 ∃ F,Hq F h.Words h.ar h.aV h.a3 h.a1 h.aY h.Next k.bc k.a8 k.Fields k.Names k.a9 roots=some ((true,()),()):=by
 refine ⟨140737488355940 + 60,?_⟩
 have aI:10000 < 140737488355940 + 60 :=by omega
 have O3:3000000 < 140737488355940 + 60 :=by omega
 have qW:=amz I
 have aF:Small (140737488355940 + 60) h.aY.length:=ny 7 aP.2.2.2.2.2.1.1
 generalize Y9:(140737488355940 + 60 :Nat)=F at aI O3 aF ⊢
 have qW:∃ e,mi F k=some e/\qA F k=some e/\(e≠ 0 \/(e= 0 /\fV k)):=by rw [<-Y9];exact qW
 clear Y9
 obtain ⟨r,ak,al,hc⟩:=abx aI qW aF aP.2.2.2.2.2.2.2
 unfold Hq
 rcases hc with ⟨c1,c2⟩ | ⟨Y,O,g,rfl⟩
 · rw [amG aI ak c2 c1,Option.bind_some,decide_eq_false c1,Bool.not_false,cond_true]
   rfl
 · by_cases aB:nv Y O roots= 0
   · by_cases ap:h.ar+h.aV+ 1 - h.a1 - (h.a3 - 1) < 0
     · rw [amH aI g aB ap,Option.bind_some]
       rfl
     · obtain ⟨IX,hm⟩:=acM aB
       obtain ⟨t0,W,ha,hz,f',ai,e⟩:=amI aI g aB (by omega)
       obtain ⟨c,BN,ao⟩:=amL g ha hm f' ai
       have Bk:=alV aI O3 g qW aP.2.2.2.2.2.2.2 c ao IX (aan g hm).2
       have em:roots.map (eb (order k h Y roots) (news h.Words t0 (order k h Y roots)))=roots.map (fC h (O++order k h Y roots)):=List.map_congr_left fun v _=>BN v
       rw [e,Option.bind_some,em]
       dsimp only
       rw [decide_eq_true (rfl:(0 :Int)= 0),Bool.not_true,cond_false,Bk,Option.bind_some]
       simp
   · rw [amJ aI g aB,Option.bind_some,decide_eq_false aB,Bool.not_false,cond_true]
     rfl
end Go.Proofs.YteeliipnilghaaaGreat
namespace Go.Proofs.YteeliipnilghaaaGreat.youngKeeps
open Go Go.ChangeShapes Go.WideShapes Go.ChangeAt Go.RowKit
theorem own:ownKnob Tryz.prog.godebug=none:=by kernel_rfl
set_option maxRecDepth 100000 in
theorem amK (H:Type) (enc:TypeId × Value->H) (W:World) (base:Nat) (args:Array Value) (ds gs:List (DataW H)) (before:List MemPlace)
 (og:∀ (j:Nat) t v,Tryz.f5.params[j]? =some t->args[j]? =some v->Value.okWide Tryz.prog W .any base t v)
 (g9:DataW.Whole enc Tryz.prog Tryz.f5.params.toList Rows.youngKeepsSpec.vars false W args.toList ds gs before) (I0:∀ n ∈ DataW.weightsEach Tryz.prog Tryz.f5.params.toList ds,n<=reachBytes) :
 Calls Tryz.prog 5 args W fun e ck=>∃ v,e= .returned v/\Rows.youngKeepsSpec.post enc Tryz.prog Tryz.f5 false true false false W args v ck:=by
 have apF:=g9
 have bx:=g9.lt
 obtain ⟨p,q,apf,qR,BL,oc,sU⟩:=g9
 have dH:DataW.TrodAll enc Tryz.prog W 0 (fun _=>true) true Tryz.f5.params.toList args.toList ds p:=apf
 have dI:=I0
 rw [Tryz.params5] at dH og dI
 obtain ⟨a0,aEE,d0,aDV,gI,aEy,O8,rfl,rfl,aP,aze⟩:=trodAll_cons dH
 obtain ⟨v1,aEF,d1,aDW,et,bp,rfl,rfl,rfl,I,azf⟩:=trodAll_cons aze
 obtain ⟨v2,aEG,d2,aDX,hN,bI,rfl,rfl,rfl,aa,azg⟩:=trodAll_cons azf
 obtain ⟨rfl,rfl,rfl⟩:=trodAll_nil azg
 obtain rfl:args= #[a0,v1,v2]:=by cases args;simp_all
 obtain ⟨rfl,rfl⟩:=trodVars_none qR
 have ayl:=axR (enc:=enc) (N:=reachBytes)
 have ayh:=ax.MB ayl aP (fun x ad=>bx x (by subst BL;simp [ad]))
 have ayo:=ayh (fun m hm=>dI m (by simp only [DataW.weightsEach,List.mem_append];simp [hm]))
 obtain ⟨d0,fR,hM⟩:=ayo
 obtain ⟨a0,rfl,_⟩:=okWide_struct Tryz.underlying24 (og 0 24 a0 rfl rfl)
 obtain ⟨aDw,aDM,aDx,aDN,cF,avL,avM⟩:=fR
 obtain rfl:=ax.V9 cF
 have aym:=axS (enc:=enc) (N:=reachBytes)
 have ayi:=ax.MB aym I (fun x ad=>bx x (by subst BL;simp [ad]))
 have ayp:=ayi (fun m hm=>dI m (by simp only [DataW.weightsEach,List.mem_append];simp [hm]))
 obtain ⟨d1,cd,bj⟩:=ayp
 obtain ⟨v1,rfl,_⟩:=okWide_struct Tryz.underlying30 (og 1 30 v1 rfl rfl)
 obtain ⟨aDy,aDO,aDz,aDP,aDA,aDQ,aDB,aDR,aDC,aDS,ak,avS,avT,avU,avV,avW⟩:=cd
 obtain rfl:=ax.V9 ak
 have ayn:=Kp (enc:=enc) (N:=reachBytes)
 have ayj:=ax.MB ayn aa (fun x ad=>bx x (by subst BL;simp [ad]))
 have ayq:=ayj (fun m hm=>dI m (by simp only [DataW.weightsEach,List.mem_append];simp [hm]))
 obtain ⟨d2,c7,bk⟩:=ayq
 obtain ⟨dv,rm,c2,rfl⟩:=okWide_slice Tryz.underlying22 (og 2 22 v2 rfl rfl)
 obtain ⟨c8,VB,al⟩:=ax.ly c7
 obtain ⟨rfl,rfl,rfl⟩:=Value.slice.inj (List.cons.inj al).1
 obtain ⟨F,aI⟩:=Go.Proofs.YteeliipnilghaaaGreat.avB d0 hM d1 bj d2 bk
 have vu:∀ k,ax.hH [] W k->k <W.heap.size/\W.heap[k]? =W.heap[k]? :=fun k ai=>⟨ai.2,rfl⟩
 have g_:((Qt F).run aU [.a [.s 3 d0.Words,.p (.int .i64 d0.ar),.p (.int .i64 d0.aV),.p (.int .i64 d0.a3),.p (.int .i64 d0.a1),.s 3 d0.aY,.p (.int .i64 d0.Next)],.a [.s 134 d1.bc,.s 3 d1.a8,.s 124 d1.Fields,.s 120 d1.Names,.s 121 d1.a9],.s 3 d2] [])= .op (Hq F d0.Words d0.ar d0.aV d0.a3 d0.a1 d0.aY d0.Next d1.bc d1.a8 d1.Fields d1.Names d1.a9 d2) fun r=>.ok ⟨.ret (.p (.bool r.1.1)),[],[]⟩:=by kernel_rfl
 refine (bB.atL (E:=aU) rfl (amn F) (ys:=[.a [.s 3 d0.Words,.p (.int .i64 d0.ar),.p (.int .i64 d0.aV),.p (.int .i64 d0.a3),.p (.int .i64 d0.a1),.s 3 d0.aY,.p (.int .i64 d0.Next)],.a [.s 134 d1.bc,.s 3 d1.a8,.s 124 d1.Fields,.s 120 d1.Names,.s 121 d1.a9],.s 3 d2]) (W:=W) (by rw [g_];exact ⟨((true,()),()),aI,rfl⟩) ⟨_,_,rfl,⟨_,rfl,_,_,rfl,bB.iA (fun _ _=>Ko) ((ax.b3 _).law vu avL),_,_,rfl,rfl,_,_,rfl,rfl,_,_,rfl,rfl,_,_,rfl,rfl,_,_,rfl,bB.iA (fun _ _=>Ko) ((ax.b3 _).law vu avM),_,_,rfl,rfl,rfl⟩,_,_,rfl,⟨_,rfl,_,_,rfl,bB.iA (fun _ _=>axK) ((ax.b3 _).law vu avS),_,_,rfl,bB.iA (fun _ _=>Ko) ((ax.b3 _).law vu avT),_,_,rfl,bB.iA (fun _ _=>axH) ((ax.b3 _).law vu avU),_,_,rfl,bB.iA (fun _ _=>axF) ((ax.b3 _).law vu avV),_,_,rfl,bB.iA (fun _ _=>axG) ((ax.b3 _).law vu avW),rfl⟩,_,_,rfl,bB.iA (fun _ _=>Ko) ((ax.b3 _).law vu c7),rfl⟩).mono fun e ck ⟨he,af⟩=>?_
 exact ⟨_,he,ax.avE apF (by kernel_rfl) (by kernel_rfl) rfl rfl Tryz.underlying4 rfl af⟩
theorem atJ (os:Os):laidMet Tryz.prog Rows.youngKeepsRow.laid ((World.holding Tryz.prog os ⟨#[],#[],[]⟩).forCall (fun _ _=>0) ⟨#[],#[.agg #[.slice none 0 0,.int .i64 0,.int .i64 0,.int .i64 0,.int .i64 0,.slice none 0 0,.int .i64 0],.agg #[.slice none 0 0,.slice none 0 0,.slice none 0 0,.slice none 0 0,.slice none 0 0],.slice none 0 0],[]⟩).memory:=
 laidMet_of_run' 8 (by kernel_rfl) (by kernel_rfl)
theorem reads (os:Os) {H:Type} (enc:TypeId × Value->H):∃ places,DataW.whole enc Tryz.prog ((World.holding Tryz.prog os ⟨#[],#[],[]⟩).forCall (fun _ _=>0) ⟨#[],#[.agg #[.slice none 0 0,.int .i64 0,.int .i64 0,.int .i64 0,.int .i64 0,.slice none 0 0,.int .i64 0],.agg #[.slice none 0 0,.slice none 0 0,.slice none 0 0,.slice none 0 0,.slice none 0 0],.slice none 0 0],[]⟩).memory Tryz.f5.params.toList Rows.youngKeepsSpec.vars false (#[.agg #[.slice none 0 0,.int .i64 0,.int .i64 0,.int .i64 0,.int .i64 0,.slice none 0 0,.int .i64 0],.agg #[.slice none 0 0,.slice none 0 0,.slice none 0 0,.slice none 0 0,.slice none 0 0],.slice none 0 0]:Array Value).toList 8 =some ([.agg [.nil,.lit (.int .i64 0),.lit (.int .i64 0),.lit (.int .i64 0),.lit (.int .i64 0),.nil,.lit (.int .i64 0)],.agg [.nil,.nil,.nil,.nil,.nil],.nil],[],places):=
 ⟨[],by kernel_rfl⟩
set_option maxRecDepth 100000 in
theorem lifted (os:Os) (started:os.Started) (H:Type) (enc:TypeId × Value->H) (F:Stop.Interp) :
 ReturnsInHanded {} Tryz.checked os 5 .any ((OpenSpec.ofChange Rows.youngKeepsSpec).preRow enc Tryz.prog Tryz.f5 Rows.youngKeepsRow.domain false Rows.youngKeepsRow.laid) (((OpenSpec.ofChange Rows.youngKeepsSpec).at F).post enc Tryz.prog Tryz.f5 false true false false):=by
 obtain ⟨places,ad⟩:=reads os enc
 refine returnsInHanded_of_row (C:=Tryz.checked) (s:=OpenSpec.ofChange Rows.youngKeepsSpec) own started (by kernel_rfl) Tryz.func5
  (witness_row_at (enc:=enc) (C:=Tryz.checked) false (World.holding Tryz.prog os ⟨#[],#[],[]⟩) #[.agg #[.slice none 0 0,.int .i64 0,.int .i64 0,.int .i64 0,.int .i64 0,.slice none 0 0,.int .i64 0],.agg #[.slice none 0 0,.slice none 0 0,.slice none 0 0,.slice none 0 0,.slice none 0 0],.slice none 0 0] rfl (by kernel_rfl) (by kernel_rfl) (by kernel_rfl)
   (OpenSpec.preRow_of_cond 8 ad (by kernel_rfl) (fun k ai=>by cases ai) (by kernel_rfl) (atJ os))) ?_
 intro W base args ds gs before og g9 _ aD6 arD _ _ _
 exact amK H enc W base args ds gs before og g9 (fun n aF=>by obtain ⟨_,_,_,qR,_,_,_⟩:=g9;obtain ⟨rfl,_⟩:=trodVars_none qR;have ZY:(DataW.weightsEach Tryz.prog (Tryz.f5.params.toList++[]) (ds++[])).all (· <=reachBytes)=true:=arD;rw [List.append_nil,List.append_nil] at ZY;exact of_decide_eq_true (List.all_eq_true.1 ZY n aF))
theorem said:Rows.YoungKeepsSaid:=
 OpenClaim.holds_of_cond 5 Tryz.f5 rfl rfl rfl rfl rfl rfl rfl ⟨rfl,rfl,rfl,rfl,rfl⟩ rfl rfl rfl rfl rfl (by kernel_rfl) Tryz.func5 (by kernel_rfl)
  (of_decide_eq_true (by kernel_rfl)) (by unfold Func.isWrapper;first | (rw [if_pos (by decide +kernel)];kernel_rfl) | (rw [if_neg (by decide +kernel)];exact ⟨rfl,rfl⟩))
  (fun os started H enc _ F=>by rw [OpenClaim.pre_eq_preRow];exact lifted os started H enc F)
end Go.Proofs.YteeliipnilghaaaGreat.youngKeeps
