/- LAW: THE WALK AND THE PLAIN LAW, JOINED TO THE GIVEN STATEMENT: for every input that the row speaks of, the call returns true and what came in reads as it did. Made by program (liftgen2.py). -/
import Derived.Test.YteeliipnilghaaaGreatGb7
import Derived.Test.YteeliipnilghaaaGreatRows
import Derived.WalkKit
import Derived.ProofKit
import Derived.OpenShut
import Derived.Deep.DeepHandedRow
open Bool renaming and_eq_true->cb,and_self->mG,not_false->ja,not_true->eb,or_eq_true->ia
open Classical renaming byContradiction->lL
open Int renaming le_refl->lI,toNat_natCast->bV
open List renaming Pairwise.imp_of_mem->lP,all_eq_true->k_,any_eq_true->iY,append_assoc->g_,append_nil->hR,cons.inj->fT,cons_append->iE,drop_eq_getElem_cons->de,drop_length->iL,drop_zero->hB,getElem?_append_left->eA,getElem?_append_right->fq,getElem?_eq_getElem->aK,getElem?_eq_none->gE,getElem?_eq_some_iff->aP,getElem?_map->jw,getElem_map->la,getElem_mem->hg,getElem_of_mem->iz,length->jb,length_append->dR,length_cons->dL,length_map->gC,length_nil->gR,length_range->iZ,length_set->kc,length_singleton->kg,map_append->jH,map_congr_left->ly,map_cons->eB,map_map->nr,map_nil->iD,mem_append->cj,mem_append_left->gi,mem_append_right->gI,mem_cons->cI,mem_cons_of_mem->dZ,mem_cons_self->il,mem_filter->js,mem_flatMap->hM,mem_map->hY,mem_map_of_mem->j5,mem_of_getElem?->bG,mem_of_mem_drop->l7,mem_range->lB,mem_singleton->dT,mergeSort_perm->lx,nil_append->kK,nodup_append->fA,nodup_cons->ie,nodup_nil->mA,pairwise_mergeSort->mD,perm_ext_iff_of_nodup->k7,range->ed,replicate->fV,take_append->lE,take_append_of_le_length->kh,take_length->jI,take_of_length_le->h0,take_succ_eq_append_getElem->lb
open Nat renaming add_assoc->kU,add_zero->lf,le_refl->cT,lt_or_ge->gL,sub_self->mm,zero_le->gT
open Option renaming bind_some->ae,map_eq_some_iff->cz,map_some->fU,some.inj->eJ
open Prod renaming fst->lz,mk.injEq->cF
namespace Go.Proofs.YteeliipnilghaaaGreat
open I
section
variable{F:Nat}{k:aO}{y ol yt ot nx tp:Int}{W nt o ns pl rv:List Int}{M:List (Int×Int)}{c1:List ap}{c2:List Int}{c3:List (List I.Field)}{c4:List (List (List UInt8))}{c5:List (List I.Target)}
theorem GC{x v:Int}:∀ {M:List (Int×Int)},x∉M.map lz->gf M x v=M++[(x,v)]
 |[],_=>rfl
 |p::r,h=>by
  simp only[eB,cI,not_or]at h;rw[gf,if_neg (λ e=>h.1 e.symm),GC h.2];rfl
theorem axW(G:o.length<=5000)(H:W.length<=5000)
 (s:∀a∈o,1<=a/\a.toNat+3+(wd W (a.toNat+1)).toNat<=W.length/\0<=wd W (a.toNat+1))(u:o.Nodup):∀(d i f t:Nat)(M:List (Int×Int)),i+d=o.length->d<f->t+5000*d<=100000000 ->(∀a∈o.drop i,a∉M.map lz) ->
 CD F f pl o (t:Int) o (o.length:Int) (i:Int) rv W y ol yt ot nt nx c1 c2 c3 c4 c5 M=some ((pl,(),(),o,(),((bx W t (o.drop i):Nat):Int),()),rv,((),()),(W,y,ol,yt,ot,nt,nx,()),(c1,c2,c3,c4,c5,()),M++(o.drop i).zip (news W t (o.drop i)),()):=by
 intro d
 induction d with
 |zero=>
  intro i f t M h ad v g
  obtain⟨f,rfl⟩:∃j,f=j+1:=⟨f-1,by omega⟩
  have:i=o.length:=by omega
  subst this
  rw[CD,bL,cond_false,iL]
  simp[bx,news]
 |succ d w=>
  intro i f t M h ad v g
  obtain⟨f,rfl⟩:∃j,f=j+1:=⟨f-1,by omega⟩
  have hi:i<o.length:=by omega
  have x:o[i]? =some o[i]:=aK hi
  obtain⟨J,z,a3⟩:=s _ (hg hi)
  have c:=de hi
  have e:(o.drop i).Nodup:=u.sublist (List.drop_sublist i o)
  rw[c]at g e
  obtain⟨q,b⟩:∃q:Nat,o[i]=(q:Int):=⟨o[i].toNat,by omega⟩
  rw[b,bV]at z a3
  have A:q<=100000:=by omega
  have B:q+1<W.length:=by omega
  obtain⟨n,l⟩:∃n,n=3+(wd W (q+1)).toNat:=⟨_,rfl⟩
  have C:n<=100000:=by omega
  have D:i<=100000:=by omega
  have E:sz W o[i]=n:=by rw[b];unfold sz;rw[bV,l]
  have mc:t+n+5000*d<=100000000:=by omega
  have m:I.ax ((t:Int)+(n:Int))=((t+n:Nat):Int):=by rw[cQ (by omega) (by omega)];omega
  have p:gf M o[i] (t:Int)=M++[(o[i],(t:Int))]:=GC (g _ il)
  rw[b]at p
  rw[CD,bM hi,cond_true,bw x,ae,b,h5 A,e7 B,ae,Q9 a3 l C,m,h5 D,p]
  clear m
  refine(w (i+1) f (t+n) (M++[((q:Int),(t:Int))]) (by omega) (by omega) mc (λ a r=>?_)).trans ?_
  ·rw[jH,cj,not_or]
   refine⟨g a (dZ _ r),λ hc=>?_⟩
   have hc:a=(q:Int):=by simpa using hc
   exact(ie.1 e).1 (by rw[b,<-hc];exact r)
  ·rw[c,news,bx,E,b,List.zip_cons_cons,g_,List.singleton_append]
theorem axY(B:gk k){q t n:Nat}(C:∀v∈dm k W (q:Int),(cH M v).getD 0=dC o ns v)(e:(cH M (q:Int)).getD 0=(t:Int))(K:n=3+(wd W (q+1)).toNat)(L:q+n<=W.length)(N:W.length<=5000)(D:gJ k (wd W q)=true)(w:isLen k (wd W q) (wd W (q+1))=true){od:List Int}{ln oi:Int} :
 ∀(d i f:Nat)(Z:List Int),i+d=n->d<f->Z.length<=5000 ->t+n<=Z.length ->
 ∃a,ua F f pl tp (q:Int) od ln oi (n:Int) (i:Int) rv W y ol yt ot nt nx k.a6 k.aY k.Fields k.Names k.aZ M Z=some ((pl,(),(),(),tp,(),od,ln,oi,()),rv,((),()),(W,y,ol,yt,ot,nt,nx,()),(k.a6,k.aY,k.Fields,k.Names,k.aZ,()),M,a,())/\
  a.length=Z.length/\ ∀p,wd a p=if t+i<=p/\p<t+n then val k W o ns q (p-t)else wd Z p:=by
 intro d
 have O:=(kY.1 w).1
 have P:n<=100000:=by omega
 have Q:q<=100000:=by omega
 induction d with
 |zero=>
  intro i f Z h ad x z
  obtain⟨f,rfl⟩:∃g,f=g+1:=⟨f-1,by omega⟩
  have:i=n:=by omega
  subst this
  rw[ua,bL,cond_false]
  refine⟨Z,rfl,rfl,λ p=>?_⟩
  rw[if_neg (by omega)]
 |succ d E=>
  intro i f Z h ad x z
  obtain⟨f,rfl⟩:∃g,f=g+1:=⟨f-1,by omega⟩
  have hi:i<n:=by omega
  have j:q+i<W.length:=by omega
  have l:q+i<=100000:=by omega
  have m:t+i<=100000:=by omega
  have c:i<=100000:=by omega
  have G:idx W (I.ax ((q:Int)+i))=some (wd W (q+i)):=by rw[lO l];exact e7 j
  have r:idx Z ((t+i:Nat):Int)=some (wd Z (t+i)):=e7 (by omega)
  have step:∀v:Int,v=val k W o ns q i-> ∃a,ua F f pl tp (q:Int) od ln oi (n:Int) ((i+1 :Nat):Int) rv W y ol yt ot nt nx k.a6 k.aY k.Fields k.Names k.aZ M (Z.set (t+i) v)=some ((pl,(),(),(),tp,(),od,ln,oi,()),rv,((),()),(W,y,ol,yt,ot,nt,nx,()),(k.a6,k.aY,k.Fields,k.Names,k.aZ,()),M,a,())/\
   a.length=Z.length/\ ∀p,wd a p=if t+i<=p/\p<t+n then val k W o ns q (p-t)else wd Z p:=λ v s=>by
   obtain⟨a,H,ao,aT⟩:=E (i+1) f (Z.set (t+i) v) (by omega) (by omega) (by rw[kc];exact x) (by rw[kc];exact z)
   refine⟨a,H,by rw[ao,kc],λ p=>?_⟩
   rw[aT p]
   by_cases A:p=t+i
   ·subst A
    rw[if_neg (by omega),if_pos (by omega),Rc (by omega),if_pos rfl,s,show t+i-t=i by omega]
   ·by_cases b:t+(i+1)<=p/\p<t+n
    ·rw[if_pos b,if_pos (by omega)]
    ·rw[if_neg b,if_neg (by omega),Rc (by omega),if_neg A]
  rw[ua,bM hi,cond_true,G,ae]
  by_cases u:3<=i
  ·rw[decide_eq_true (show(3 :Int)<=(i:Int) by omega),cond_true,e7 (show q<W.length by omega),ae]
   have J:qL (b'.mk (aO.mk k.a6 k.aY k.Fields k.Names k.aZ)) (wd W q) (I.ax ((i:Int)-3))=some (ej k (wd W q) (i-3)):=by
    rw[aJT c u];exact QG B D w (by omega)
   rw[J,ae]
   cases b:ej k (wd W q) (i-3)with
   |true=>
    have s:wd W (q+i)∈dm k W (q:Int):=hY.2 ⟨((q+i:Nat):Int),by
     rw[bV];exact sK.2 ⟨i-3,by omega,b,by omega⟩,by rw[bV]⟩
    rw[cond_true,e,lO m,r,ae,h5 c,bV]
    exact step _ (by rw[C _ s];unfold val;rw[if_pos ⟨u,b⟩])
   |false=>
    rw[cond_false,e,lO m,r,ae,h5 c,bV]
    exact step _ (by unfold val;rw[if_neg (λ h=>by rw[b]at h;cases h.2)])
  ·rw[decide_eq_false (show¬(3 :Int)<=(i:Int) by omega),cond_false,e,lO m,r,ae,h5 c,bV]
   exact step _ (by unfold val;rw[if_neg (λ h=>u h.1)])
theorem axX(aD:10000<F)(J:gk k)(au:o.length<=5000)(ow:ns.length=o.length)(K:W.length<=5000)(L:∀a∈o,∀v∈dm k W a,(cH M v).getD 0=dC o ns v)(N:∀(j:Nat)(a:Int),o[j]? =some a->some ((cH M a).getD 0)=ns[j]?)
 (O:∀a∈o,1<=a/\a.toNat+3+(wd W (a.toNat+1)).toNat<=W.length/\gJ k (wd W a.toNat)=true/\isLen k (wd W a.toNat) (wd W (a.toNat+1))=true):∀(d i f t:Nat)(Z:List Int),i+d=o.length->d<f->ns.drop i=news W t (o.drop i)->bx W t (o.drop i)<=W.length->Z.length=W.length ->
 ∃b,CE F f pl tp o (o.length:Int) (i:Int) rv W y ol yt ot nt nx k.a6 k.aY k.Fields k.Names k.aZ M Z=some ((pl,(),(),tp,(),()),rv,((),()),(W,y,ol,yt,ot,nt,nx,()),(k.a6,k.aY,k.Fields,k.Names,k.aZ,()),M,b,())/\
  b.length=W.length/\laid k W o ns b t (o.drop i)/\ ∀p,p<t\/bx W t (o.drop i)<=p->wd b p=wd Z p:=by
 intro d
 induction d with
 |zero=>
  intro i f t Z h ad l r s
  obtain⟨f,rfl⟩:∃u,f=u+1:=⟨f-1,by omega⟩
  have:i=o.length:=by omega
  subst this
  refine⟨Z,?_,s,by rw[iL];trivial,λ p _=>rfl⟩
  rw[CE,bL,cond_false]
 |succ d P=>
  intro i f t Z h ad l r s
  obtain⟨f,rfl⟩:∃u,f=u+1:=⟨f-1,by omega⟩
  have hi:i<o.length:=by omega
  have B:o[i]? =some o[i]:=aK hi
  have C:i<ns.length:=by omega
  have Q:ns[i]? =some ns[i]:=aK C
  rw[de hi,de C,news]at l
  rw[de hi,bx]at r
  have R:ns[i]=(t:Int):=(fT l).1
  have D:=(fT l).2
  have E:=hg hi
  obtain⟨cq,S,a3,a4⟩:=O _ E
  have c:=L _ E
  have e:=N i _ B
  rw[Q,R]at e
  have e:=eJ e
  obtain⟨q,g⟩:∃q:Nat,o[i]=(q:Int):=⟨o[i].toNat,by omega⟩
  rw[g,bV]at S a3 a4
  rw[g]at c e
  obtain⟨n,w⟩:∃n,n=3+(wd W (q+1)).toNat:=⟨_,rfl⟩
  have x:sz W o[i]=n:=by rw[g];unfold sz;rw[bV,w]
  rw[x]at D r
  have st:=k8 (W:=W) (o:=o.drop (i+1)) (t:=t+n)
  have T:i<=100000:=by omega
  have U:q<=100000:=by omega
  have V:q+1<W.length:=by omega
  have X:n<=100000:=by omega
  have Y:=(kY.1 a4).1.1
  obtain⟨z,c8,eO,G⟩:=axY (F:=F) (pl:=pl) (tp:=tp) (rv:=rv) (y:=y) (ol:=ol) (yt:=yt) (ot:=ot) (nx:=nx) (nt:=nt) (od:=o) (ln:=(o.length:Int)) (oi:=(i:Int)) J c e w (by omega) K a3 a4 n 0 F Z (by omega) (by omega) (by omega) (by omega)
  have A:ua F F pl tp (q:Int) o (o.length:Int) (i:Int) (n:Int) 0 rv W y ol yt ot nt nx k.a6 k.aY k.Fields k.Names k.aZ M Z=_:=c8
  obtain⟨b,i1,i2,i3,H⟩:=P (i+1) f (t+n) z (by omega) (by omega) D r (by rw[eO,s])
  refine⟨b,?_,i2,?_,λ p aC=>?_⟩
  ·rw[CE,bM hi,cond_true,bw B,ae,g,h5 U,e7 V,ae,Q9 Y w X,A,ae]
   dsimp only
   rw[h5 T]
   exact i1
  ·rw[de hi,laid,x]
   refine⟨λ m hm=>?_,i3⟩
   rw[H _ (by omega),G,if_pos (by omega),g,bV,show t+m-t=m by omega]
  ·rw[de hi,bx,x]at aC
   rw[H p (by omega),G,if_neg (by omega)]
theorem axZ{Z:List Int}{roots:List Int}(n:roots.length<=5000)(g:∀v∈roots,(cH M v).getD 0=dC o ns v):∀(d i f:Nat)(rs:List Int),i+d=roots.length->d<f->rs=(roots.take i).map (dC o ns)++roots.drop i ->
 CF F f tp Z (hr roots.length) (roots.length:Int) (i:Int) W y ol yt ot nt nx M rs=some (((),tp,Z,()),((),()),(W,y,ol,yt,ot,nt,nx,()),M,roots.map (dC o ns),()):=by
 intro d
 induction d with
 |zero=>
  intro i f rs h ad b
  obtain⟨f,rfl⟩:∃c,f=c+1:=⟨f-1,by omega⟩
  have:i=roots.length:=by omega
  subst this
  rw[CF,bL,cond_false,b,iL,jI,hR]
 |succ d j=>
  intro i f rs h ad b
  obtain⟨f,rfl⟩:∃c,f=c+1:=⟨f-1,by omega⟩
  have a:i<roots.length:=by omega
  have l:i<=100000:=by omega
  have e:((roots.take i).map (dC o ns)).length=i:=by simp;omega
  have m:rs[i]? =some roots[i]:=by
   rw[b,fq (by omega),e,mm,de a];rfl
  rw[CF,bM a,cond_true,bw (abh a),ae,bw m,ae,h5 l,bV,g _ (hg a)]
  refine j (i+1) f _ (by omega) (by omega) ?_
  rw[b,List.set_append_right _ _ (by omega),e,mm,de a,List.set_cons_zero,lb a,jH,g_]
  rfl
end
end Go.Proofs.YteeliipnilghaaaGreat
namespace Go.Proofs.YteeliipnilghaaaGreat
open I bc
theorem Rb{k:aO}{W:List Int}{to q:Nat}{L:List Int}(h:I.eQ k W to q L):(∀a∈L,(q:Int)<=a)/\L.Pairwise (·< ·):=by
 induction h with
 |nil=>exact⟨λ a ar=>by simp at ar,List.Pairwise.nil⟩
 | @cons q r c J d e b=>
   refine⟨λ a ar=>?_,List.Pairwise.cons (λ a ar=>?_) b.2⟩
   ·rcases cI.1 ar with rfl |ar
    ·exact lI _
    ·have:=b.1 a ar;omega
   ·have:=b.1 a ar;omega
def wX(Y O A:List Int):List Int:=O.filter (λ a=>decide (a∈A))++Y.filter (λ a=>decide (a∈A))
section
variable{F:Nat}{h:aV}{k:aO}{Y O A roots:List Int}
theorem wY(b:∀a∈A,a∈Y++O){a:Int}:a∈wX Y O A↔a∈A:=by
 unfold wX;rw[cj,js,js,decide_eq_true_eq];constructor
 ·rintro(h |h)<;>exact h.2
 ·intro h
  rcases cj.1 (b a h)with e |e
  ·exact .inr ⟨e,h⟩
  ·exact .inl ⟨e,h⟩
theorem adg(g:I.Good F h k Y O):(∀a∈Y,a<=h.ak)/\ ∀a∈O,h.ak+1<=a/\a<=h.ak+h.aM:=by
 obtain⟨⟨⟨d,e⟩,f,e6⟩,i,⟨j,l⟩,⟨jT,m⟩,n⟩:=id g.s;refine⟨λ a b=>?_,λ a b=>?_⟩
 ·have c:=g.l.EU g.s a b
  omega
 ·have c:=g.l.j8 g.s a b
  omega
theorem ain(g:I.Good F h k Y O)(d:∀a∈A,a∈Y++O):Ord (Y++O) (wX Y O A):=by
 obtain⟨f,J⟩:=adg g;refine⟨?_,λ a c=>d a ((wY d).1 c)⟩;refine fA.2 ⟨((Rb g.l.o).2.imp λ h=>by omega).filter _,((Rb g.l.y).2.imp λ h=>by omega).filter _,λ a c b ag e=>?_⟩;have i:=J a (js.1 c).1;have j:=f b (js.1 ag).1;omega
theorem aI'(g:I.Good F h k Y O)(p:A.Nodup)(j:∀a∈A,a∈Y++O):k6 h.ak h.aM A=wX Y O A:=by
 obtain⟨⟨⟨t,u⟩,v,e6⟩,w,⟨x,y⟩,⟨jT,z⟩,B⟩:=id g.s;obtain⟨m,J⟩:=adg g;have f:∀a∈Y,1<=a:=λ a d=>(g.l.fit g.s a (gi O d)).1;have q:∀a b c:Int,k2 h.ak h.aM a b=true->k2 h.ak h.aM b c=true->k2 h.ak h.aM a c=true:=λ a b c m J=>by
  simp only[k2,decide_eq_true_eq]at *;omega
 have r:∀a b:Int,(k2 h.ak h.aM a b||k2 h.ak h.aM b a)=true:=λ a b=>by
  simp only[k2,ia,decide_eq_true_eq];omega
 have n:∀a∈Y,fa h.ak h.aM a=a+h.ak+h.aM:=λ a d=>by
  unfold fa;rw[if_neg (by have:=m a d;omega)]
 have fP:∀a∈O,fa h.ak h.aM a=a:=λ a d=>by
  unfold fa;rw[if_pos (by have:=J a d;omega)]
 have o:∀a∈Y++O,1<=a/\a<=h.ak+h.aM:=λ a d=>by
  rcases cj.1 d with e |e
  ·have:=m a e;have:=f a e;omega
  ·have:=J a e;omega
 unfold k6;refine List.Perm.eq_of_pairwise (le:=λ a b=>k2 h.ak h.aM a b=true) (λ a b d ag i sc=>?_) (mD q r A) ?_ ((lx A _).trans ((k7 p (ain g j).hn).2 λ a=>(wY j).symm))
 ·have d:=o a (j a ((lx A _).mem_iff.1 d))
  have ag:=o b (j b ((wY j).1 ag))
  have i:fa h.ak h.aM a<=fa h.ak h.aM b:=of_decide_eq_true i
  have sc:fa h.ak h.aM b<=fa h.ak h.aM a:=of_decide_eq_true sc
  unfold fa at i sc
  by_cases f:h.ak<a<;>by_cases l:h.ak<b
  ·rw[if_pos f,if_pos l]at i sc;omega
  ·rw[if_pos f,if_neg l]at i;omega
  ·rw[if_neg f,if_pos l]at i sc;omega
  ·rw[if_neg f,if_neg l]at i sc;omega
 ·unfold wX
  refine List.pairwise_append.2 ⟨lP (λ{a b} d ag s=>?_) ((Rb g.l.o).2.filter _),lP (λ{a b} d ag s=>?_) ((Rb g.l.y).2.filter _),λ a d b ag=>?_⟩
  ·have d:=(js.1 d).1
   have ag:=(js.1 ag).1
   exact decide_eq_true (by rw[fP a d,fP b ag];omega)
  ·have d:=(js.1 d).1
   have ag:=(js.1 ag).1
   exact decide_eq_true (by rw[n a d,n b ag];omega)
  ·have d:=(js.1 d).1
   have ag:=(js.1 ag).1
   have:=J a d
   have:=f b ag
   exact decide_eq_true (by rw[fP a d,n b ag];omega)
theorem fW.xT{x d:aV}{L:List Int}(c:fW h k L x)(a:fW h k L d):x.Words=d.Words:=by
 refine aKa (by rw[c.len,a.len]) λ p b=>?_;rw[c.len]at b;by_cases e:p<(h.ak+1).toNat\/bx h.Words (h.ak+1).toNat L<=p
 ·rw[c.fr p b e,a.fr p b e]
 ·obtain⟨j,aA,i,J,rfl⟩:=amz (W:=h.Words) (o:=L) (t:=(h.ak+1).toNat) (p:=p) (by omega) (by omega)
  rw[c.p4 j aA i J,a.p4 j aA i J]
theorem avd{o Z:List Int}(b:Ord (Y++O) o)(c:∀a∈o,∀v∈dm k h.Words a,v=0\/v∈o)(d:bx h.Words (h.ak+1).toNat o<=h.Words.length)(e:Z.length=h.Words.length)
 (J:laid k h.Words o (news h.Words (h.ak+1).toNat o) Z (h.ak+1).toNat o)(f:∀p,(p<(h.ak+1).toNat\/bx h.Words (h.ak+1).toNat o<=p)->wd Z p=0) :
 fW h k o ⟨Z,h.ak,h.aM,1,((bx h.Words (h.ak+1).toNat o:Nat):Int),[],h.Next⟩:=
 ⟨b.hn,c,e,rfl,rfl,rfl,rfl,rfl,rfl,d,λ _ aA _ hi=>ajf aA J hi,λ p _ g=>f p g⟩
theorem aKb{n p:Nat}:wd (fV n 0) p=0:=by
 unfold wd;rcases gL p n with C5 |C5
 ·simp[C5]
 ·rw[gE (by simpa using C5)];rfl
theorem amp{W:List Int}:∀ {l:List Int}{n:Nat},(∀a∈l,1<=a/\a.toNat+3+(wd W (a.toNat+1)).toNat<=W.length/\0<=wd W (a.toNat+1))->W.length<=5000 ->n+10000*l.length<=1000000000 ->iX W l (n:Int)=some ((n+gg W [] l:Nat):Int)
 |[],n,_,_,_=>rfl
 |a::r,n,h,e,f=>by
  obtain⟨o,g,a3⟩:=h a (by simp);obtain⟨q,rfl⟩:∃q:Nat,a=(q:Int):=⟨a.toNat,by omega⟩
  rw[bV]at g a3;rw[dL]at f;obtain⟨m,d⟩:∃m,m=3+(wd W (q+1)).toNat:=⟨_,rfl⟩
  have i:q<=100000:=by omega
  have c:m<=100000:=by omega
  have j:I.ax ((n:Int)+(m:Int))=((n+m:Nat):Int):=by rw[cQ (by omega) (by omega)];omega
  rw[iX,h5 i,e7 (by omega),ae,Q9 a3 d c,j,amp (l:=r) (λ b ag=>h b (by simp[ag])) e (by omega)];rw[gg,if_neg (by simp),sz,bV,<-d,kU]
end
end Go.Proofs.YteeliipnilghaaaGreat
namespace Go.Proofs.YteeliipnilghaaaGreat
open I
section
variable{F:Nat}{k:aO}{h:aV}{Y O:List Int}
theorem left_eq(g:I.Good F h k Y O):I.ax (I.ax (I.ax (I.ax (h.ak+h.aM)+1)-h.aW)-I.ax (h.aX-1))=h.ak+h.aM+1-h.aW- (h.aX-1):=by
 obtain⟨⟨⟨a,b⟩,c,e6⟩,d,⟨e,f⟩,⟨jT,i⟩,j⟩:=g.s;rw[cQ (n:=h.ak+h.aM) (by omega) (by omega),cQ (n:=h.ak+h.aM+1) (by omega) (by omega),cQ (n:=h.ak+h.aM+1-h.aW) (by omega) (by omega),cQ (n:=h.aX-1) (by omega) (by omega),cQ (by omega) (by omega)]
theorem akm(g:I.Good F h k Y O):m' h=some h:=by
 have a:=g.YM;have J:=g.s.e3;unfold m' QH;rw[io (by simp;omega),ae,io (by simp;omega)];rfl
theorem ava(b:10000<F)(g:I.Good F h k Y O){roots:List Int}(i:kG Y O roots=0)(l:0<=h.ak+h.aM+1-h.aW- (h.aX-1)) :
 ∃(t0:Nat)(W:List Int),h.aW=(t0:Int)/\Ord Y (order k h Y roots)/\bx h.Words t0 (order k h Y roots)<=h.Words.length/\Kept h k O t0 (order k h Y roots) W/\
  qk F h.Words h.ak h.aM h.aX h.aW h.aS h.Next k.a6 k.aY k.Fields k.Names k.aZ roots=some (((W,h.ak,h.aM,1,((bx h.Words t0 (order k h Y roots):Nat):Int),[],h.Next,()),roots.map (dC (order k h Y roots) (news h.Words t0 (order k h Y roots))),0,()),()):=by
 obtain⟨w,j⟩:=aaF i
 obtain⟨⟨⟨x,y⟩,z,e6⟩,A,⟨B,C⟩,⟨jT,E⟩,G⟩:=id g.s
 obtain⟨t0,d⟩:∃t0:Nat,h.aW=(t0:Int):=⟨h.aW.toNat,by omega⟩
 have m:h.aW.toNat=t0:=by omega
 have e:∀f,Ord Y f->bx h.Words t0 f<=h.Words.length:=λ f n=>by rw[<-m];exact aIi g n l
 have c:=PZ g j
 obtain⟨W,D,o,p,fR,k5,q⟩:=run_eq b g d e (roots:=roots) (by omega) j
 refine⟨t0,W,d,c,e _ c,aCb g d c (e _ c) p fR k5 q,?_⟩
 have r:jZ F (⟨h.Words,h.ak,h.aM,h.aX,h.aW,h.aS,h.Next⟩:aV) (⟨k.a6,k.aY,k.Fields,k.Names,k.aZ⟩:aO)=_:=g.open b
 have s:vw F (⟨⟨h.Words,h.ak,h.aM,h.aX,h.aW,h.aS,h.Next⟩,⟨⟨k.a6,k.aY,k.Fields,k.Names,k.aZ⟩⟩,Y,O,(Y++O).map λ a=>(a,true)⟩:bj) roots=_:=Qy b g roots
 have t:m' (⟨h.Words,h.ak,h.aM,h.aX,h.aW,h.aS,h.Next⟩:aV)=_:=akm g
 have u:bI 8 [] roots=some roots:=io (by simp;omega)
 have v:I.rI F (roots.length:Int)=_:=akF (by omega) b
 unfold qk
 rw[r]
 dsimp only[iB,dy,view]
 rw[decide_eq_true (rfl:(0 :Int)=0),cond_true,s,ae,i,decide_eq_true (rfl:(0 :Int)=0),cond_true,left_eq g,decide_eq_false (by omega),cond_false,eb,cond_false,t,ae,u,ae,v,ae]
 rw[o,ae]
theorem au_(f:10000<F){roots:List Int}{r:Option bj×Int}(e:jZ F h k=some r)(a:r.1=none)(J:r.2≠0) :
 qk F h.Words h.ak h.aM h.aX h.aW h.aS h.Next k.a6 k.aY k.Fields k.Names k.aZ roots=some ((([],0,0,0,0,[],0,()),[],r.2,()),()):=by
 have b:jZ F (⟨h.Words,h.ak,h.aM,h.aX,h.aW,h.aS,h.Next⟩:aV) (⟨k.a6,k.aY,k.Fields,k.Names,k.aZ⟩:aO)=_:=e
 obtain⟨c,d⟩:=r
 obtain rfl:c=none:=a
 have J:d≠0:=J
 unfold qk
 rw[b]
 dsimp only[iB,dy]
 rw[decide_eq_false J,cond_false,cond_false,ja,cond_true]
theorem avb(b:10000<F)(g:I.Good F h k Y O){roots:List Int}(c:kG Y O roots≠0) :
 qk F h.Words h.ak h.aM h.aX h.aW h.aS h.Next k.a6 k.aY k.Fields k.Names k.aZ roots=some ((([],0,0,0,0,[],0,()),[],kG Y O roots,()),()):=by
 have d:jZ F (⟨h.Words,h.ak,h.aM,h.aX,h.aW,h.aS,h.Next⟩:aV) (⟨k.a6,k.aY,k.Fields,k.Names,k.aZ⟩:aO)=_:=g.open b
 have e:vw F (⟨⟨h.Words,h.ak,h.aM,h.aX,h.aW,h.aS,h.Next⟩,⟨⟨k.a6,k.aY,k.Fields,k.Names,k.aZ⟩⟩,Y,O,(Y++O).map λ a=>(a,true)⟩:bj) roots=_:=Qy b g roots
 unfold qk
 rw[d]
 dsimp only[iB,dy,view]
 rw[decide_eq_true (rfl:(0 :Int)=0),cond_true,e,ae,decide_eq_false c,cond_false,ja,cond_true]
theorem au'(b:10000<F)(g:I.Good F h k Y O){roots:List Int}(c:kG Y O roots=0)(d:h.ak+h.aM+1-h.aW- (h.aX-1)<0) :
 qk F h.Words h.ak h.aM h.aX h.aW h.aS h.Next k.a6 k.aY k.Fields k.Names k.aZ roots=some ((([],0,0,0,0,[],0,()),[],8,()),()):=by
 have e:jZ F (⟨h.Words,h.ak,h.aM,h.aX,h.aW,h.aS,h.Next⟩:aV) (⟨k.a6,k.aY,k.Fields,k.Names,k.aZ⟩:aO)=_:=g.open b
 have f:vw F (⟨⟨h.Words,h.ak,h.aM,h.aX,h.aW,h.aS,h.Next⟩,⟨⟨k.a6,k.aY,k.Fields,k.Names,k.aZ⟩⟩,Y,O,(Y++O).map λ a=>(a,true)⟩:bj) roots=_:=Qy b g roots
 unfold qk
 rw[e]
 dsimp only[iB,dy,view]
 rw[decide_eq_true (rfl:(0 :Int)=0),cond_true,f,ae,c,decide_eq_true (rfl:(0 :Int)=0),cond_true,left_eq g,decide_eq_true d,cond_true]
end
end Go.Proofs.YteeliipnilghaaaGreat
namespace Go.Proofs.YteeliipnilghaaaGreat
open I bc
section
variable{F:Nat}{h:aV}{k:aO}{Y O:List Int}
theorem aJO{l:List Int}(j:l.length<=5000):∀(d i f:Nat)(out:List Int),i+d=l.length->d<f->out.length=i ->
 CH F f (hr l.length) (l.length:Int) (i:Int) out l=some (((),()),out++l.drop i,l,()):=by
 intro d
 induction d with
 |zero=>
  intro i f out hi ad c
  obtain⟨f,rfl⟩:∃b,f=b+1:=⟨f-1,by omega⟩
  have:i=l.length:=by omega
  subst this
  rw[CH,bL,cond_false,iL,hR]
 |succ d e=>
  intro i f out hi ad c
  obtain⟨f,rfl⟩:∃b,f=b+1:=⟨f-1,by omega⟩
  have a:i<l.length:=by omega
  have g:l[i]? =some l[i]:=aK a
  rw[CH,bM a,cond_true,bw (abh a),ae,bw g,ae,aug (by omega),ae,eW a (by omega)]
  refine(e (i+1) f _ (by omega) (by omega) (by simp[c])).trans ?_
  rw[de a,g_,List.singleton_append]
theorem values_eq(b:10000<F){l:List Int}(a:l.length<=5000):NT F (hr l.length) l=some ((l,()),l,()):=by
 unfold NT;have e:=aJO (F:=F) a l.length 0 F [] (by omega) (by omega) rfl;rw[hB,kK]at e;have e':CH F F (hr l.length) (l.length:Int) 0 [] l=_:=e;rw[Q5,e',ae]
theorem aba{S ns:List Int}(b:ns.length=S.length){v:Int}(c:v=0\/v∈S):(cH ((0,0)::S.zip ns) v).getD 0=dC S ns v:=by
 unfold dC;by_cases a:v=0
 ·rw[cH,if_pos (by rw[a]),if_pos a,a]
  rfl
 ·rw[cH,if_neg (λ e=>a e.symm),if_neg a,Pp b]
  cases d:pos S v with
  |none=>exact absurd (c.resolve_left a) (uX.1 d)
  |some j=>rfl
abbrev kept(k:aO)(h:aV)(Y O roots:List Int):List Int:=wX Y O (iA k h Y O roots)
theorem Dr(g:I.Good F h k Y O){roots:List Int}(b:∀a∈roots,a=0\/a∈Y++O):Ord (Y++O) (kept k h Y O roots):=ain g (sZ g b).sub
theorem XN(g:I.Good F h k Y O){roots:List Int}(e:∀a∈roots,a=0\/a∈Y++O):(∀a∈kept k h Y O roots,∀v∈dm k h.Words a,v=0\/v∈kept k h Y O roots)/\ ∀v∈roots,v=0\/v∈kept k h Y O roots:=by
 have c:=λ a=>wY (a:=a) (sZ g e).sub;have hc:=Qn g e;refine⟨λ a f v d=>?_,λ v d=>?_⟩
 ·by_cases b:v=0
  ·exact .inl b
  ·exact .inr ((c v).2 (hc.gP a ((c a).1 f) v d b))
 ·by_cases b:v=0
  ·exact .inl b
  ·exact .inr ((c v).2 (hc.rt v d b))
theorem aDO(q:10000<F)(g:I.Good F h k Y O){roots:List Int}(r:roots.length<=5000)(b:∀a∈roots,a=0\/a∈Y++O) :
 ∃A,A.Perm (iA k h Y O roots)/\A.Nodup/\(∀a∈A,a∈Y++O)/\
  CG F roots k.a6 k.aY k.Fields k.Names k.aZ h.Words h.ak h.aM h.aX h.aW h.aS h.Next []=
   some ((),((),k.a6,k.aY,k.Fields,k.Names,k.aZ,(),()),(h.Words,h.ak,h.aM,h.aX,h.aW,h.aS,h.Next,()),iS A,())/\
  FQ h.Words (iS A)=some ((gg h.Words [] (kept k h Y O roots):Nat):Int)/\MR F h.Words h.ak h.aM h.aX h.aW h.aS h.Next k.a6 k.aY k.Fields k.Names k.aZ roots=some ((((gg h.Words [] (kept k h Y O roots):Nat):Int),()),()):=by
 obtain⟨m,A,e,s,t,f,u,i,j⟩:=aDN q g r b
 have c:=Dr g b
 have x:=IH g
 have y:=c.len
 have z:=g.s.e3
 have v:A.Perm (kept k h Y O roots):=e.trans ((k7 (sZ g b).hn c.hn).2 λ a=>(wY (sZ g b).sub).symm)
 have d:=amp (W:=h.Words) (l:=kept k h Y O roots) (n:=0) (λ a o=>by
  have p:=g.l.fit g.s a (c.sub a o);have J:=g.l.s7 a (c.sub a o);exact⟨p.1,p.2.1,(kY.1 J.2).1.1⟩) (by omega) (by omega)
 rw[aa2 v]at f
 have w:m=((gg h.Words [] (kept k h Y O roots):Nat):Int):=by
  have:iX h.Words (kept k h Y O roots) 0=_:=d;rw[f]at this;have:=eJ this;omega
 rw[w]at i j
 exact⟨A,e,s,t,u,i,j⟩
set_option maxHeartbeats 1000000
theorem ax0(u:10000<F)(g:I.Good F h k Y O){roots:List Int}(al:roots.length<=1000)(n:∀a∈roots,a=0\/a∈Y++O) :
 (h.aM<((gg h.Words [] (kept k h Y O roots):Nat):Int)->I4 F k.a6 k.aY k.Fields k.Names k.aZ (hr roots.length) h.Words h.ak h.aM h.aX h.aW h.aS h.Next roots=some ((false,()),(h.Words,h.ak,h.aM,h.aX,h.aW,h.aS,h.Next,()),roots,()))/\
 (¬h.aM<((gg h.Words [] (kept k h Y O roots):Nat):Int)->bx h.Words (h.ak+1).toNat (kept k h Y O roots)<=h.Words.length/\ ∃Z,I4 F k.a6 k.aY k.Fields k.Names k.aZ (hr roots.length) h.Words h.ak h.aM h.aX h.aW h.aS h.Next roots=some ((true,()),(Z,h.ak,h.aM,1,((bx h.Words (h.ak+1).toNat (kept k h Y O roots):Nat):Int),[],h.Next,()),roots.map (tn h (kept k h Y O roots)),())/\
  fW h k (kept k h Y O roots) ⟨Z,h.ak,h.aM,1,((bx h.Words (h.ak+1).toNat (kept k h Y O roots):Nat):Int),[],h.Next⟩):=by
 obtain⟨A,Q,eO,w,R,T,GQ⟩:=aDO u g (roots:=roots) (by omega) n
 have d:=Dr g n
 have q:=XN g n
 have dN:=IH g
 have Gb:=d.len
 have pE:=g.s.e3
 have ag9:A.length<=5000:=by rw[Q.length_eq];have:=(sZ g n).len;omega
 obtain⟨⟨⟨bN,dF⟩,eY,e6⟩,iN,⟨pg,mR⟩,⟨jT,ph⟩,pf⟩:=id g.s
 unfold okB at iN
 have i:NS F k.a6 k.aY k.Fields k.Names k.aZ (hr roots.length) h.Words h.ak h.aM h.aX h.aW h.aS h.Next roots=
  some (((),()),(h.Words,h.ak,h.aM,h.aX,h.aW,h.aS,h.Next,()),roots,((),k.a6,k.aY,k.Fields,k.Names,k.aZ,(),()),iS A,()):=by
  unfold NS
  rw[values_eq u (by omega),ae]
  dsimp only
  rw[R,ae]
 unfold I4
 rw[i,ae]
 dsimp only
 rw[T,ae,ae]
 clear R T GQ i
 obtain⟨S,l⟩:∃S,S=kept k h Y O roots:=⟨_,rfl⟩
 rw[<-l]at d q Gb⊢
 refine⟨λ hc=>?_,λ hc=>?_⟩
 ·rw[decide_eq_true hc,cond_true]
 ·rw[decide_eq_false hc,cond_false]
  have z:k6 h.ak h.aM A=S:=by
   rw[aI' g eO w,l];show wX Y O A=wX Y O (iA k h Y O roots)
   unfold wX;have:∀a,decide (a∈A)=decide (a∈iA k h Y O roots):=λ a=>decide_eq_decide.2 Q.mem_iff;simp only[this]
  have B:Dp h.ak h.aM (List.map lz (iS A)) []=some S:=by
   have C:List.map lz (iS A)=A:=by
    unfold iS;rw[nr];exact List.map_id _
   rw[C];unfold Dp;have ag:(decide (0<=h.ak)&&decide (h.ak<=100000)&&decide (0<=h.aM)&&decide (h.aM<=100000)&&decide (A.length<=200000)&&([]:List Int).isEmpty&&A.all (λ x=>decide (1<=x)&&decide (x<=h.ak+h.aM)))=true:=by
    simp only[cb,decide_eq_true_eq,k_,List.isEmpty_nil,and_true];refine⟨⟨⟨⟨⟨by omega,by omega⟩,by omega⟩,by omega⟩,by omega⟩,λ x U=>?_⟩;have r:=g.l.fit g.s x (w x U);have J:=adg g;rcases cj.1 (w x U)with e |e
    ·have:=J.1 x e;omega
    ·have:=J.2 x e;omega
   rw[ag,z]
  have D:∀E G H K c,Kf ((hr roots.length,(),(),(),(),()),((),()),(k.a6,k.aY,k.Fields,k.Names,k.aZ,()),((),E,G,H,K,c,(),()),(h.Words,h.ak,h.aM,h.aX,h.aW,h.aS,h.Next,()),iS A,roots,[],())=
   some ((hr roots.length,(),(),(),()),(((),()),(k.a6,k.aY,k.Fields,k.Names,k.aZ,()),((),E,G,H,K,c,(),()),(h.Words,h.ak,h.aM,h.aX,h.aW,h.aS,h.Next,()),iS A,roots,S,())):=λ E G H K c=>by
   show(Dp h.ak h.aM (List.map lz (iS A)) []).map _=_
   rw[B]
   rfl
  erw[D,ae]
  dsimp only
  obtain⟨t,mc⟩:∃t:Nat,(h.ak+1).toNat=t:=⟨_,rfl⟩
  have Xh:I.ax (h.ak+1)=(t:Int):=by rw[cQ (by omega) (by omega)];omega
  have L:bx h.Words t S<=h.Words.length:=by rw[GF];omega
  have m:(news h.Words t S).length=S.length:=xD
  have V:=d.hn
  have f:∀a∈S,1<=a/\a.toNat+3+(wd h.Words (a.toNat+1)).toNat<=h.Words.length/\gJ k (wd h.Words a.toNat)=true/\isLen k (wd h.Words a.toNat) (wd h.Words (a.toNat+1))=true:=λ a b=>by
   have r:=g.l.fit g.s a (d.sub a b);have J:=g.l.s7 a (d.sub a b);exact⟨r.1,r.2.1,J.1,J.2⟩
  have ao:=axW (F:=F) (pl:=hr roots.length) (rv:=roots) (y:=h.ak) (ol:=h.aM) (yt:=h.aX) (ot:=h.aW) (nx:=h.Next) (W:=h.Words) (nt:=h.aS) (c1:=k.a6) (c2:=k.aY) (c3:=k.Fields) (c4:=k.Names) (c5:=k.aZ) (o:=S) (by omega) (by omega) (λ a b=>⟨(f a b).1,(f a b).2.1,(kY.1 (f a b).2.2.2).1.1⟩) V S.length 0 F t [(0,0)] (by omega) (by omega) (by omega) (λ a b=>by
   have:=(f a (l7 b)).1;simp;omega)
  rw[hB]at ao
  have IP:CD F F (hr roots.length) S (t:Int) S (S.length:Int) 0 roots h.Words h.ak h.aM h.aX h.aW h.aS h.Next k.a6 k.aY k.Fields k.Names k.aZ [(0,0)]=_:=ao
  rw[Xh]
  erw[IP,ae]
  dsimp only
  have ah:zU (0 :Int) 8 ((jb h.Words:Nat):Int)=some (fV h.Words.length 0):=by
   unfold zU;rw[if_pos (by omega),bV]
  rw[ah,ae]
  have dK:∀a∈S,∀v∈dm k h.Words a,(cH ([(0,0)]++S.zip (news h.Words t S)) v).getD 0=dC S (news h.Words t S) v:=λ a b v N=>aba m (q.1 a b v N)
  have CN:∀(j:Nat)(a:Int),S[j]? =some a->some ((cH ([(0,0)]++S.zip (news h.Words t S)) a).getD 0)=(news h.Words t S)[j]? :=λ j a aA=>by
   obtain⟨s,rfl⟩:=aP.1 aA;have r:=(f _ (hg s)).1;have:=aba m (v:=S[j]) (.inr (hg s));refine Eq.trans (congrArg some this) ?_;unfold dC;rw[if_neg (by omega),pos_at s V];dsimp only;rw[aK (by rw[m];exact s)];rfl
  obtain⟨Z,bq,bA,X,fL⟩:=axX (pl:=hr roots.length) (tp:=((bx h.Words t S:Nat):Int)) (rv:=roots) (y:=h.ak) (ol:=h.aM) (yt:=h.aX) (ot:=h.aW) (nx:=h.Next) (nt:=h.aS) u g.hF (by omega) m (by omega) dK CN f S.length 0 F t (fV h.Words.length 0) (by omega) (by omega) (by rw[hB,hB]) (by rw[hB];exact L) (by simp)
  rw[hB]at X fL
  have D1:CE F F (hr roots.length) ((bx h.Words t S:Nat):Int) S (S.length:Int) 0 roots h.Words h.ak h.aM h.aX h.aW h.aS h.Next k.a6 k.aY k.Fields k.Names k.aZ ([(0,0)]++S.zip (news h.Words t S)) (fV h.Words.length 0)=_:=bq
  rw[D1,ae]
  dsimp only
  have FF:=axZ (F:=F) (tp:=((bx h.Words t S:Nat):Int)) (W:=h.Words) (y:=h.ak) (ol:=h.aM) (yt:=h.aX) (ot:=h.aW) (nx:=h.Next) (nt:=h.aS) (o:=S) (ns:=news h.Words t S) (M:=[(0,0)]++S.zip (news h.Words t S)) (Z:=Z) (roots:=roots) (by omega) (λ v N=>aba m (q.2 v N)) roots.length 0 F roots (by omega) (by omega) (by simp)
  have T7:CF F F ((bx h.Words t S:Nat):Int) Z (hr roots.length) (roots.length:Int) 0 h.Words h.ak h.aM h.aX h.aW h.aS h.Next ([(0,0)]++S.zip (news h.Words t S)) roots=_:=FF
  rw[Q5,T7,ae]
  have P:tn h S=dC S (news h.Words t S):=by unfold tn;rw[mc]
  rw[mc,P]
  refine⟨L,Z,rfl,?_⟩
  have:=avd (Z:=Z) d q.1 (by rw[mc];exact L) bA (by rw[mc];exact X) (by rw[mc];exact λ p aC=>(fL p aC).trans aKb)
  rw[mc]at this
  exact this
theorem agu(a:10000<F)(g:I.Good F h k Y O){roots:List Int}(b:kG Y O roots=0) :
 (h.aM<((gg h.Words [] (kept k h Y O roots):Nat):Int)->FP F h.Words h.ak h.aM h.aX h.aW h.aS h.Next k.a6 k.aY k.Fields k.Names k.aZ roots=some ((([],0,0,0,0,[],0,()),[],8,()),()))/\
 (¬h.aM<((gg h.Words [] (kept k h Y O roots):Nat):Int)-> ∃Z,FP F h.Words h.ak h.aM h.aX h.aW h.aS h.Next k.a6 k.aY k.Fields k.Names k.aZ roots=some (((Z,h.ak,h.aM,1,((bx h.Words (h.ak+1).toNat (kept k h Y O roots):Nat):Int),[],h.Next,()),roots.map (tn h (kept k h Y O roots)),0,()),())/\
  fW h k (kept k h Y O roots) ⟨Z,h.ak,h.aM,1,((bx h.Words (h.ak+1).toNat (kept k h Y O roots):Nat):Int),[],h.Next⟩):=by
 obtain⟨d,f⟩:=aaF b
 obtain⟨i,j⟩:=ax0 a g d f
 have l:m' (⟨h.Words,h.ak,h.aM,h.aX,h.aW,h.aS,h.Next⟩:aV)=_:=akm g
 have m:bI 8 [] roots=some roots:=io (by simp;omega)
 have n:I.rI F (roots.length:Int)=_:=akF (by omega) a
 unfold FP
 rw[axM a g]
 dsimp only[dy]
 rw[b,decide_eq_true (rfl:(0 :Int)=0),eb,cond_false,l,ae,m,ae,n,ae]
 refine⟨λ hc=>?_,λ hc=>?_⟩
 ·rw[i hc,ae]
  rfl
 ·obtain⟨_,Z,e,c⟩:=j hc
  rw[e,ae]
  exact⟨Z,rfl,c⟩
end
end Go.Proofs.YteeliipnilghaaaGreat
namespace Go.Proofs.YteeliipnilghaaaGreat
open I
def kH(met:List Int)(a:Int):Int×List Int:=if a=0 then(0,met)else match pos met a with
 |some i=>((i:Int)+1,met)
 |none=>((met.length:Int)+1,met++[a])
def ka:List Int->List Int->List Int->List Int×List Int
 |[],met,out=>(met,out)
 |a::r,met,out=>ka r (kH met a).2 (out++[(kH met a).1])
def h4:List (Bool×Int)->List Int->List Int->List Int×List Int
 |[],met,out=>(met,out)
 |(true,v)::r,met,out=>h4 r (kH met v).2 (out++[(kH met v).1])
 |(false,v)::r,met,out=>h4 r met (out++[v])
def cells(k:aO)(W:List Int)(q:Nat):List (Bool×Int):=(ed (wd W (q+1)).toNat).map λ j=>(ej k (wd W q) j,wd W (q+3+j))
def s5(k:aO)(W:List Int):Nat->Nat->List Int->List Int->List Int
 |0,_,_,out=>out
 |d+1,i,met,out=>match met[i]? with
  |some a=>s5 k W d (i+1) (h4 (cells k W a.toNat) met (out++[wd W a.toNat,wd W (a.toNat+1),wd W (a.toNat+2)])).1 (h4 (cells k W a.toNat) met (out++[wd W a.toNat,wd W (a.toNat+1),wd W (a.toNat+2)])).2
  |none=>out
def hF(k:aO)(W roots:List Int):List Int:=s5 k W 5001 0 (ka roots [] []).1 (ka roots [] []).2
theorem Hk{S met:List Int}{a:Int}(h:Ord S met)(ar:a=0\/a∈S):Ord S (kH met a).2:=by
 unfold kH;by_cases d:a=0
 ·rw[if_pos d];exact h
 ·rw[if_neg d]
  cases f:pos met a with
  |some i=>exact h
  |none=>
   have g:=uX.1 f
   refine⟨fA.2 ⟨h.hn,by simp,λ b ag c hc e=>?_⟩,λ b ag=>?_⟩
   ·cases dT.1 hc
    subst e
    exact g ag
   ·rcases cj.1 ag with ag |ag
    ·exact h.sub b ag
    ·cases dT.1 ag
     rcases ar with ar |ar
     ·exact absurd ar d
     ·exact ar
theorem aI3{met:List Int}{a:Int}:met.length<=(kH met a).2.length:=by
 unfold kH;split
 ·exact cT _
 ·split
  ·exact cT _
  ·simp
theorem Lj{S:List Int}:∀ {l:List (Bool×Int)}{met out:List Int},Ord S met->(∀v,(true,v)∈l->v=0\/v∈S)->Ord S (h4 l met out).1/\(h4 l met out).2.length=out.length+l.length/\met.length<=(h4 l met out).1.length
 |[],met,out,h,_=>⟨h,rfl,cT _⟩
 |(true,v)::r,met,out,h,b=>by
  have:=Lj (l:=r) (met:=(kH met v).2) (out:=out++[(kH met v).1]) (Hk h (b v (by simp))) λ w c=>b w (dZ _ c);have J:=aI3 (met:=met) (a:=v);refine⟨this.1,by rw[h4,this.2.1];simp;omega,by rw[h4];omega⟩
 |(false,v)::r,met,out,h,b=>by
  have:=Lj (l:=r) (met:=met) (out:=out++[v]) h λ w c=>b w (dZ _ c);exact⟨this.1,by rw[h4,this.2.1];simp;omega,this.2.2⟩
theorem aaQ{S:List Int}:∀ {l met out:List Int},Ord S met->(∀v∈l,v=0\/v∈S)->Ord S (ka l met out).1/\(ka l met out).2.length=out.length+l.length
 |[],met,out,h,_=>⟨h,rfl⟩
 |v::r,met,out,h,a=>by
  have:=aaQ (l:=r) (met:=(kH met v).2) (out:=out++[(kH met v).1]) (Hk h (a v (by simp))) λ w b=>a w (dZ _ b);exact⟨this.1,by rw[ka,this.2];simp;omega⟩
theorem al6{k:aO}{W S:List Int}(hc:∀a∈S,∀v,(true,v)∈cells k W a.toNat->v=0\/v∈S)(b:∀a∈S,(wd W (a.toNat+1)).toNat<=500):∀ {d i:Nat}{met out:List Int},Ord S met->(s5 k W d i met out).length<=out.length+503*d
 |0,i,met,out,_=>cT _
 |d+1,i,met,out,h=>by
  rw[s5];cases f:met[i]? with
  |none=>dsimp only;omega
  |some a=>
   dsimp only
   have c:=h.sub a (bG f)
   have e:=Lj (out:=out++[wd W a.toNat,wd W (a.toNat+1),wd W (a.toNat+2)]) h (hc a c)
   have J:=al6 hc b (d:=d) (i:=i+1) (out:=(h4 (cells k W a.toNat) met (out++[wd W a.toNat,wd W (a.toNat+1),wd W (a.toNat+2)])).2) e.1
   have j:(cells k W a.toNat).length<=500:=by unfold cells;rw[gC,iZ];exact b a c
   have g:=e.2.1
   simp only[dR,dL,gR]at g
   omega
section
variable{T:Int->Int}{S:List Int}
structure E5 (T:Int->Int) (S:List Int):Prop where
 zero:T 0=0
 gr:∀v∈S,v≠0 ->T v≠0
 inj:∀v∈S,∀w∈S,v≠0 ->w≠0 ->T v=T w->v=w
 Lx:∀v∈S,v≠0
theorem akL(c:E5 T S):∀ {met:List Int}{v:Int},(∀a∈met,a∈S)->v∈S->pos (met.map T) (T v)=pos met v
 |[],v,_,_=>rfl
 |b::r,v,f,d=>by
  have ag:=f b il;rw[eB,pos,pos,akL c (λ a g=>f a (dZ _ g)) d];by_cases e:b=v
  ·rw[if_pos e,if_pos (by rw[e])]
  ·rw[if_neg e,if_neg (λ h=>e (c.inj b ag v d (c.Lx b ag) (c.Lx v d) h))]
theorem al_(c:E5 T S){met:List Int}{v:Int}(e:∀a∈met,a∈S)(f:v=0\/v∈S):kH (met.map T) (T v)=((kH met v).1,(kH met v).2.map T):=by
 unfold kH;by_cases b:v=0
 ·subst b
  rw[c.zero,if_pos rfl,if_pos rfl]
 ·have d:v∈S:=f.resolve_left b
  rw[if_neg (c.gr v d b),if_neg b,akL c e d]
  cases pos met v with
  |some i=>rfl
  |none=>simp
theorem al8(a:E5 T S):∀ {l met out:List Int},Ord S met->(∀v∈l,v=0\/v∈S)->ka (l.map T) (met.map T) out=((ka l met out).1.map T,(ka l met out).2)
 |[],met,out,_,_=>rfl
 |v::r,met,out,h,b=>by
  have c:=b v il;rw[eB,ka,ka,al_ a h.sub c];exact al8 a (Hk h c) λ w d=>b w (dZ _ d)
theorem aaR(b:E5 T S):∀ {l:List (Bool×Int)}{met out:List Int},Ord S met->(∀v,(true,v)∈l->v=0\/v∈S)->h4 (l.map λ p=>(p.1,if p.1=true then T p.2 else p.2)) (met.map T) out=((h4 l met out).1.map T,(h4 l met out).2)
 |[],met,out,_,_=>rfl
 |(true,v)::r,met,out,h,a=>by
  have d:=a v il;rw[eB];show h4 ((true,T v)::_) _ _=_
  rw[h4,h4,al_ b h.sub d];exact aaR b (Hk h d) λ w c=>a w (dZ _ c)
 |(false,v)::r,met,out,h,a=>by
  rw[eB];show h4 ((false,v)::_) _ _=_
  rw[h4,h4];exact aaR b h λ w c=>a w (dZ _ c)
theorem al7{k:aO}{W cu:List Int}(c:E5 T S)(hc:∀a∈S,∀v,(true,v)∈cells k W a.toNat->v=0\/v∈S)
 (e:∀a∈S,wd cu (T a).toNat=wd W a.toNat/\wd cu ((T a).toNat+1)=wd W (a.toNat+1)/\wd cu ((T a).toNat+2)=wd W (a.toNat+2)/\cells k cu (T a).toNat=(cells k W a.toNat).map λ p=>(p.1,if p.1=true then T p.2 else p.2)) :
 ∀ {d i:Nat}{met out:List Int},Ord S met->s5 k cu d i (met.map T) out=s5 k W d i met out
 |0,i,met,out,_=>rfl
 |d+1,i,met,out,h=>by
  rw[s5,s5,jw];cases f:met[i]? with
  |none=>rfl
  |some a=>
   have b:=h.sub a (bG f)
   obtain⟨g,j,ao,aT⟩:=e a b
   dsimp only[fU]
   rw[g,j,ao,aT,aaR c h (hc a b)]
   exact al7 c hc e (Lj h (hc a b)).1
end
end Go.Proofs.YteeliipnilghaaaGreat
namespace Go.Proofs.YteeliipnilghaaaGreat
open I
section
variable{F:Nat}{h x:aV}{k:aO}{Y O L:List Int}
theorem aD8{W:List Int}{q:Nat}{v:Int}(a:(true,v)∈cells k W q):∃i,i<(wd W (q+1)).toNat/\ej k (wd W q) i=true/\v=wd W (q+3+i):=by
 unfold cells at a;obtain⟨i,hi,e⟩:=hY.1 a;exact⟨i,lB.1 hi,(Prod.mk.inj e).1,(Prod.mk.inj e).2.symm⟩
theorem TN{W:List Int}{a v:Int}(b:(true,v)∈cells k W a.toNat):v∈dm k W a:=by
 obtain⟨i,c,J,rfl⟩:=aD8 b;exact hY.2 ⟨((a.toNat+3+i:Nat):Int),sK.2 ⟨i,c,J,rfl⟩,by rw[bV]⟩
theorem fW.inj(g:I.Good F h k Y O)(c:fW h k L x)(aj:∀a∈L,a∈Y++O):E5 (tn h L) L:=by
 have d:∀a∈L,a≠0:=λ a f=>by have:=(g.l.fit g.s a (aj a f)).1;omega
 obtain⟨⟨⟨m,n⟩,o,e6⟩,p,⟨q,r⟩,⟨jT,s⟩,t⟩:=id g.s;exact⟨LF,λ v b i e=>by have:=(aa_ (h:=h) c.hn i b).2;omega,λ v b w j l J e=>aJl c.hn l J b j e,d⟩
theorem fW.cells(g:I.Good F h k Y O)(c:fW h k L x)(aj:∀a∈L,a∈Y++O):∀a∈L,wd x.Words (tn h L a).toNat=wd h.Words a.toNat/\wd x.Words ((tn h L a).toNat+1)=wd h.Words (a.toNat+1)/\wd x.Words ((tn h L a).toNat+2)=wd h.Words (a.toNat+2)/\Go.Proofs.YteeliipnilghaaaGreat.cells k x.Words (tn h L a).toNat=(Go.Proofs.YteeliipnilghaaaGreat.cells k h.Words a.toNat).map λ p=>(p.1,if p.1=true then tn h L p.2 else p.2):=λ a d=>by
 obtain⟨j,aA,rfl⟩:=iz d;have f:L[j]≠0:=by have:=(g.l.fit g.s _ (aj _ d)).1;omega
 have b:=c.lo aA (i:=0) (by omega);have e:=c.lo aA (i:=1) (by omega);have ao:=c.lo aA (i:=2) (by omega);rw[lf,lf]at b;rw[QW c.hn aA f,bV];refine⟨b,e,ao,?_⟩;unfold Go.Proofs.YteeliipnilghaaaGreat.cells;rw[b,e,nr];refine ly λ i hi=>?_;have hi:=lB.1 hi;rw[c.hi aA hi];rfl
theorem fW.shape(g:I.Good F h k Y O)(c:fW h k L x)(aj:∀a∈L,a∈Y++O){roots:List Int}(b:∀v∈roots,v=0\/v∈L):hF k x.Words (roots.map (tn h L))=hF k h.Words roots:=by
 have d:=c.inj g aj;have e:=al8 d (l:=roots) (met:=[]) (out:=[]) Ord.nil b;rw[iD]at e;unfold hF;rw[e];exact al7 d (λ a f v i=>c.cl a f v (TN i)) (c.cells g aj) (aaQ Ord.nil b).1
end
end Go.Proofs.YteeliipnilghaaaGreat
namespace Go.Proofs.YteeliipnilghaaaGreat
open I
theorem akM{o:List Int}{v:Int}:∀ {A:List Int},v∉A->pos (A++o) v=(pos o v).map (A.length+ ·)
 |[],_=>by simp
 |b::r,h=>by
  simp only[cI,not_or]at h;rw[iE,pos,if_neg (λ e=>h.1 e.symm),akM h.2,Option.map_map,dL];cases pos o v with
  |none=>rfl
  |some i=>simp;omega
theorem akK{o:List Int}{v:Int}:∀ {A:List Int}{j:Nat},pos A v=some j->pos (A++o) v=some j
 |[],j,h=>by simp[pos]at h
 |b::r,j,h=>by
  rw[iE,pos];rw[pos]at h;by_cases e:b=v
  ·rw[if_pos e]at h⊢;exact h
  ·rw[if_neg e]at h⊢
   obtain⟨i,a,rfl⟩:=cz.1 h
   rw[akK a];rfl
theorem aEG{k:aO}{W:List Int}{to q:Nat}{L:List Int}(h:I.eQ k W to q L):news W q L=L/\bx W q L=to:=by
 induction h with
 |nil=>exact⟨rfl,rfl⟩
 | @cons q r b J c d a=>
   have aj:sz W (q:Int)=3+(wd W (q+1)).toNat:=by unfold sz;rw[bV]
   rw[news,bx,aj,show q+(3+(wd W (q+1)).toNat)=q+3+(wd W (q+1)).toNat by omega,a.1,a.2]
   exact⟨rfl,rfl⟩
theorem ajT{W:List Int}{p:List Int}:∀ {o:List Int}{t:Nat},news W t (o++p)=news W t o++news W (bx W t o) p
 |[],t=>rfl
 |a::r,t=>by simp[news,bx,ajT (o:=r)]
theorem aJA{W O o:List Int}{q t:Nat}(d:news W q O=O)(J:bx W q O=t)(aL:∀v∈O,v∉o){v:Int}:dC (O++o) (news W q (O++o)) v=dC o (news W t o) v:=by
 rw[ajT,d,J];unfold dC;by_cases a:v=0
 ·rw[if_pos a,if_pos a]
 ·rw[if_neg a,if_neg a]
  by_cases b:v∈O
  ·obtain⟨j,aA⟩:∃j,pos O v=some j:=by
    cases c:pos O v with
    |none=>exact absurd b (uX.1 c)
    |some j=>exact⟨j,rfl⟩
   have aj:=KT aA;have e:=(aP.1 aj).1;rw[akK aA,uX.2 (aL v b)];dsimp only;rw[eA e,aj];rfl
  ·rw[akM b]
   cases c:pos o v with
   |none=>rfl
   |some j=>
    dsimp only[fU]
    rw[fq (by omega),show O.length+j-O.length=j by omega]
section
variable{F:Nat}{h:aV}{k:aO}{Y O:List Int}
theorem aJ7{W:List Int}{to q:Nat}{L:List Int}(h:I.eQ k W to q L):(∀a∈L,(q:Int)<=a)/\L.Nodup:=by
 induction h with
 |nil=>exact⟨λ a ar=>by simp at ar,mA⟩
 | @cons q r d J e f b=>
   refine⟨λ a ar=>?_,ie.2 ⟨λ c=>?_,b.2⟩⟩
   ·rcases cI.1 ar with rfl |ar
    ·exact lI _
    ·have:=b.1 a ar;omega
   ·have:=b.1 _ c;omega
theorem alY(r:∀a∈Y,∀v∈dm k h.Words a,v=0\/v∈Y++O)(g:I.Good F h k Y O):∀ {d i:Nat}{o:List Int},Y.length<i+d->Ord Y o->(∀j a,j<i->o[j]? =some a-> ∀v∈dm k h.Words a,1<=v->v<=h.ak->v∈o) ->
 ∀a∈scan k h.Words h.ak d i o,∀v∈dm k h.Words a,1<=v->v<=h.ak->v∈scan k h.Words h.ak d i o
 |0,i,o,aL,n,hc=>λ a c v f m J=>by
  obtain⟨j,aA,e⟩:=iz (show a∈o from c);have:=n.len;exact hc j a (by omega) (by rw[aK aA,e]) v f m J
 |d+1,i,o,aL,n,hc=>by
  rw[scan];cases p:o[i]? with
  |none=>
   dsimp only
   intro a c v f m J
   obtain⟨j,aA,e⟩:=iz c
   have:=List.getElem?_eq_none_iff.1 p
   exact hc j a (by omega) (by rw[aK aA,e]) v f m J
  |some b=>
   dsimp only
   have ag:=n.sub b (bG p)
   obtain⟨t,q⟩:=CC (y:=h.ak) (l:=dm k h.Words b) (o:=o)
   have s:=(aP.1 p).1
   refine alY r g (by omega) (n.fold λ v f=>yi g (r b ag v f)) λ j a aA c v f m J=>?_
   by_cases e:j=i
   ·subst e
    have:a=b:=by
     rw[q,eA s,p]at c;exact(eJ c).symm
    subst this
    exact I1 f m J
   ·rw[q,eA (by omega)]at c
    rw[q]
    exact gi _ (hc j a (by omega) c v f m J)
theorem al0{W:List Int}{y:Int}:∀ {d i:Nat}{o:List Int},∃t,scan k W y d i o=o++t
 |0,i,o=>⟨[],by simp[scan]⟩
 |d+1,i,o=>by
  rw[scan];cases o[i]? with
  |none=>exact⟨[],by simp⟩
  |some a=>
   obtain⟨t,b⟩:=CC (y:=y) (l:=dm k W a) (o:=o)
   obtain⟨u,c⟩:=al0 (W:=W) (y:=y) (d:=d) (i:=i+1) (o:=(dm k W a).foldl (cV y) o)
   exact⟨t++u,by dsimp only;rw[c,b,g_]⟩
theorem aiP(g:I.Good F h k Y O){roots:List Int}(f:∀a∈roots,a=0\/a∈Y++O):(∀a∈O++order k h Y roots,∀v∈dm k h.Words a,v=0\/v∈O++order k h Y roots)/\ ∀v∈roots,v=0\/v∈O++order k h Y roots:=by
 have q:=YX g f;obtain⟨t,p⟩:=al0 (k:=k) (W:=h.Words) (y:=h.ak) (d:=Y.length+1) (i:=0) (o:=(h.aS.flatMap (dm k h.Words)).foldl (cV h.ak) (roots.foldl (cV h.ak) []));have C7:=alY (λ a ar v b=>rj g (gi O ar) v b) g (d:=Y.length+1) (i:=0) (by omega) q (λ j a aA=>by omega);have m:∀v,v=0\/v∈Y++O->(1<=v->v<=h.ak->v∈order k h Y roots)->v=0\/v∈O++order k h Y roots:=λ v b hc=>by
  rcases b with e |e
  ·exact .inl e
  ·rcases cj.1 e with e |e
   ·have:=Bw g e
    have x:3<=sz h.Words v:=by unfold sz;omega
    exact .inr (gI _ (hc this.1 (by omega)))
   ·exact .inr (gi _ e)
 refine⟨λ a ar v b=>?_,λ v b=>?_⟩
 ·rcases cj.1 ar with ar |ar
  ·refine m v (rj g (gI Y ar) v b) λ c J=>?_
   have n:a∈h.aS:=lL λ n=>by
    obtain⟨w,r,e⟩:=hY.1 b;exact g.ok.must a ar n w r (by rw[e];omega)
   show v∈scan k h.Words h.ak (Y.length+1) 0 _
   rw[p]
   exact gi _ (I1 (hM.2 ⟨a,n,b⟩) c J)
  ·exact m v (rj g (gi O ((PZ g f).sub a ar)) v b) λ c J=>C7 a ar v b c J
 ·refine m v (f v b) λ c J=>?_
  show v∈scan k h.Words h.ak (Y.length+1) 0 _
  rw[p]
  obtain⟨u,s⟩:=CC (y:=h.ak) (l:=h.aS.flatMap (dm k h.Words)) (o:=roots.foldl (cV h.ak) [])
  rw[s]
  exact gi _ (gi _ (I1 b c J))
theorem ave(g:I.Good F h k Y O){t0:Nat}(y:h.aW=(t0:Int)){roots fv:List Int}(w:∀a∈roots,a=0\/a∈Y++O)(z:bx h.Words t0 (order k h Y roots)<=h.Words.length)(f:Kept h k O t0 (order k h Y roots) fv) :
 fW h k (O++order k h Y roots) ⟨fv,h.ak,h.aM,1,((bx h.Words t0 (order k h Y roots):Nat):Int),[],h.Next⟩/\(∀v,dC (order k h Y roots) (news h.Words t0 (order k h Y roots)) v=tn h (O++order k h Y roots) v)/\ ∀a∈O++order k h Y roots,a∈Y++O:=by
 have c:=PZ g w
 have m:=g.l.o
 rw[y,bV]at m
 obtain⟨x,n⟩:=aEG m
 have o:∀v∈Y,v<=h.ak:=λ v r=>by
  have:=Bw g r;have E:3<=sz h.Words v:=by unfold sz;omega
  omega
 have d:∀v∈O,v∉order k h Y roots:=λ v r A=>by
  have G:=(g.l.j8 g.s v r).1;have J:=o v (c.sub v A);omega
 have mc:∀v,dC (order k h Y roots) (news h.Words t0 (order k h Y roots)) v=tn h (O++order k h Y roots) v:=λ v=>(aJA x n d).symm
 have s:bx h.Words (h.ak+1).toNat (O++order k h Y roots)=bx h.Words t0 (order k h Y roots):=by rw[Hq,n]
 have B:∀q i,val k h.Words (order k h Y roots) (news h.Words t0 (order k h Y roots)) q i=val k h.Words (O++order k h Y roots) (news h.Words (h.ak+1).toNat (O++order k h Y roots)) q i:=λ q i=>by
  unfold val;rw[mc]
 refine⟨⟨?_,(aiP g w).1,f.len,rfl,rfl,rfl,by rw[s],rfl,rfl,by rw[s];exact z,λ j aA i hi=>?_,λ p C hc=>?_⟩,mc,λ a ar=>?_⟩
 ·exact fA.2 ⟨(aJ7 m).2,c.hn,λ a ar b ag e=>d a ar (e▸ag)⟩
 ·rw[<-B]
  by_cases l:j<O.length
  ·have u:(O++order k h Y roots)[j]=O[j]:=List.getElem_append_left l
   have ao:bx h.Words (h.ak+1).toNat ((O++order k h Y roots).take j)=O[j].toNat:=by
    rw[kh (by omega)];have:=GH (W:=h.Words) (t:=(h.ak+1).toNat) l;rw[x,aK l]at this;have:=eJ this;omega
   rw[u]at hi⊢
   rw[ao]
   exact f.j8 _ (hg l) i hi
  ·have D:j-O.length<(order k h Y roots).length:=by rw[dR]at aA;omega
   have u:(O++order k h Y roots)[j]=(order k h Y roots)[j-O.length]:=List.getElem_append_right (by omega)
   have ao:bx h.Words (h.ak+1).toNat ((O++order k h Y roots).take j)=bx h.Words t0 ((order k h Y roots).take (j-O.length)):=by
    rw[lE,h0 (by omega),Hq,n]
   rw[u]at hi⊢
   rw[ao]
   exact f.new _ D i hi
 ·rw[s]at hc
  exact f.fr p C hc
 ·rcases cj.1 ar with ar |ar
  ·exact gI _ ar
  ·exact gi _ (c.sub a ar)
end
end Go.Proofs.YteeliipnilghaaaGreat
namespace Go.Proofs.YteeliipnilghaaaGreat
open I
section
variable{F:Nat}{h x:aV}{k:aO}{Y O L roots:List Int}
theorem aaJ{W:List Int}{a v:Int}:v∈dm k W a↔(true,v)∈cells k W a.toNat:=by
 refine⟨λ h=>?_,TN⟩;obtain⟨w,b,rfl⟩:=hY.1 h;obtain⟨i,c,J,rfl⟩:=sK.1 b;unfold cells;exact hY.2 ⟨i,lB.2 c,by rw[J,bV]⟩
theorem fW.dm(g:I.Good F h k Y O)(c:fW h k L x)(aj:∀a∈L,a∈Y++O){a:Int}(f:a∈L){v:Int}:v∈Go.Proofs.YteeliipnilghaaaGreat.dm k x.Words (tn h L a)↔ ∃u∈Go.Proofs.YteeliipnilghaaaGreat.dm k h.Words a,v=tn h L u:=by
 rw[aaJ,(c.cells g aj a f).2.2.2,hY];constructor
 ·rintro⟨⟨b,u⟩,d,e⟩
  simp only[cF]at e
  obtain⟨rfl,e⟩:=e
  rw[if_pos rfl]at e
  exact⟨u,aaJ.2 d,e.symm⟩
 ·rintro⟨u,d,rfl⟩
  exact⟨(true,u),aaJ.1 d,by rw[if_pos rfl]⟩
theorem fW.sz(g:I.Good F h k Y O)(c:fW h k L x)(aj:∀a∈L,a∈Y++O){a:Int}(b:a∈L):Go.Proofs.YteeliipnilghaaaGreat.sz x.Words (tn h L a)=Go.Proofs.YteeliipnilghaaaGreat.sz h.Words a:=by
 unfold Go.Proofs.YteeliipnilghaaaGreat.sz;rw[(c.cells g aj a b).2.1]
theorem alx(c:fW h k L x)(e:∀v∈roots,v=0\/v∈L):∀a∈iA k h Y O roots,a∈L:=
 Qo ⟨λ v b d=>(e v b).resolve_left d,λ a f v b d=>(c.cl a f v b).resolve_left d⟩
theorem fW.Hd(g:I.Good F h k Y O)(c:fW h k L x)(aj:∀a∈L,a∈Y++O)(b:∀v∈roots,v=0\/v∈L):∀v∈roots.map (tn h L),v=0\/v∈[]++news h.Words (h.ak+1).toNat L:=λ v d=>by
 obtain⟨w,f,rfl⟩:=hY.1 d;rcases b w f with e |e
 ·rw[e,LF];exact .inl rfl
 ·exact .inr (aa_ c.hn ((c.inj g aj).Lx w e) e).1
theorem aH8(g:I.Good F h k Y O)(c:fW h k L x)(aj:∀a∈L,a∈Y++O)(l:∀v∈roots,v=0\/v∈L){b:Int} :
 b∈iA k x [] (news h.Words (h.ak+1).toNat L) (roots.map (tn h L))↔ ∃a∈iA k h Y O roots,b=tn h L a:=by
 have o:=c.I' g aj
 have hi:=c.inj g aj
 have p:∀a∈iA k h Y O roots,a∈L:=alx c l
 have m:MH k h.Words roots (·∈iA k h Y O roots):=Qn g λ v d=>(l v d).imp id (aj v)
 have n:MH k x.Words (roots.map (tn h L)) (·∈iA k x [] (news h.Words (h.ak+1).toNat L) (roots.map (tn h L))):=Qn o (c.Hd g aj l)
 constructor
 ·refine Qo (P:=λ b=>∃a∈iA k h Y O roots,b=tn h L a) ⟨λ v d f=>?_,λ b ag v d f=>?_⟩ b
  ·obtain⟨w,q,rfl⟩:=hY.1 d
   exact⟨w,m.rt w q λ e=>f (by rw[e,LF]),rfl⟩
  ·obtain⟨a,i,rfl⟩:=ag
   obtain⟨u,r,rfl⟩:=(c.dm g aj (p a i)).1 d
   exact⟨u,m.gP a i u r λ e=>f (by rw[e,LF]),rfl⟩
 ·rintro⟨a,i,rfl⟩
  refine(Qo (P:=λ a=>a∈L/\tn h L a∈iA k x [] (news h.Words (h.ak+1).toNat L) (roots.map (tn h L))) ⟨λ v d f=>?_,λ a i v d f=>?_⟩ a i).2
  ·have j:=(l v d).resolve_left f
   exact⟨j,n.rt _ (j5 d) (hi.gr v j f)⟩
  ·have j:=(c.cl a i.1 v d).resolve_left f
   exact⟨j,n.gP _ i.2 _ ((c.dm g aj i.1).2 ⟨v,d,rfl⟩) (hi.gr v j f)⟩
theorem Ym{W S:List Int}:gg W [] S=(S.map (sz W)).sum:=by
 have a:=GF (W:=W) (S:=S) (t:=0);have J:=abd (W:=W) (o:=S) (t:=0);omega
theorem aCa(g:I.Good F h k Y O)(c:fW h k L x)(aj:∀a∈L,a∈Y++O)(i:∀v∈roots,v=0\/v∈L) :
 gg x.Words [] (kept k x [] (news h.Words (h.ak+1).toNat L) (roots.map (tn h L)))=gg h.Words [] (kept k h Y O roots):=by
 have n:=c.I' g aj
 have hi:=c.inj g aj
 have j:∀v∈roots,v=0\/v∈Y++O:=λ v p=>(i v p).imp id (aj v)
 have o:=c.Hd g aj i
 have l:=Dr g j
 have m:=Dr n o
 have f:∀a∈kept k h Y O roots,a∈L:=λ a d=>alx (Y:=Y) (O:=O) c i a ((wY (sZ g j).sub).1 d)
 have q:((kept k h Y O roots).map (tn h L)).Nodup:=List.pairwise_map.2 (lP (λ{a b} d ag r e=>r (hi.inj a (f a d) b (f b ag) (hi.Lx a (f a d)) (hi.Lx b (f b ag)) e)) l.hn)
 have s:(kept k x [] (news h.Words (h.ak+1).toNat L) (roots.map (tn h L))).Perm ((kept k h Y O roots).map (tn h L)):=(k7 m.hn q).2 λ b=>by
  rw[wY (sZ n o).sub,aH8 g c aj i,hY];exact⟨λ⟨a,d,e⟩=>⟨a,(wY (sZ g j).sub).2 d,e.symm⟩,λ⟨a,d,e⟩=>⟨a,(wY (sZ g j).sub).1 d,e.symm⟩⟩
 rw[Ym,Ym,(s.map _).sum_nat,nr]
 congr 1
 exact ly λ a d=>c.sz g aj (f a d)
theorem fW.kG(g:I.Good F h k Y O)(c:fW h k L x)(aj:∀a∈L,a∈Y++O)(i:roots.length<=1000)(b:∀v∈roots,v=0\/v∈L):I.kG [] (news h.Words (h.ak+1).toNat L) (roots.map (tn h L))=0:=by
 unfold I.kG;rw[if_neg (by rw[gC];omega),if_neg];intro d;obtain⟨v,f,ag⟩:=iY.1 d;unfold vT at ag;rcases c.Hd g aj b v f with e |e
 ·rw[decide_eq_true e]at ag;cases ag
 ·rw[decide_eq_true e,eb,Bool.and_false]at ag;cases ag
end
end Go.Proofs.YteeliipnilghaaaGreat
namespace Go.Proofs.YteeliipnilghaaaGreat
open I
section
variable{F:Nat}{h:aV}{k:aO}{Y O:List Int}{W nt:List Int}{y ol yt ot nx:Int}
theorem Iw{α:Type}{l m:List α}(a:l.length<=10000000)(b:m.length<=3):bI 8 l m=some (l++m):=by unfold bI;rw[if_pos (by omega)]
theorem al9(c:10000<F){met:List Int}{a:Int}(d:met.length<=5000):yy F a met=some (((kH met a).1,()),((),()),(kH met a).2,()):=by
 unfold yy kH;by_cases b:a=0
 ·rw[decide_eq_true b,cond_true,if_pos b]
 ·rw[decide_eq_false b,cond_false,if_neg b,aFA d c,ae]
  cases e:pos met a with
  |some i=>
   have hi:=(aP.1 (KT e)).1
   have f:i<=100000:=by omega
   dsimp only
   rw[decide_eq_false (by omega),cond_false,h5 f]
   rfl
  |none=>
   dsimp only
   have g:(((met++[a]).length:Nat):Int)-1=((met.length:Nat):Int):=by rw[dR,kg];omega
   have j:met.length<=100000:=by omega
   have l:I.ax ((met.length:Nat):Int)=((met.length:Nat):Int):=cQ (by omega) (by omega)
   rw[decide_eq_true (by omega),cond_true,Iw (by omega) (by simp),ae,g,l,h5 j]
   rfl
theorem aI2{S l:List Int}(e:10000<F)(n:S.length<=5000)(o:l.length<=5000)(g:∀v∈l,v=0\/v∈S):∀(d i f:Nat)(met out:List Int),i+d=l.length->d<f->Ord S met->out.length=i ->
 BG F f l (i:Int) W y ol yt ot nt nx k.a6 k.aY k.Fields k.Names k.aZ met out=some (((),(),(),(),((),()),()),(W,y,ol,yt,ot,nt,nx,()),(k.a6,k.aY,k.Fields,k.Names,k.aZ,()),((),()),(ka (l.drop i) met out).1,(ka (l.drop i) met out).2,()):=by
 intro d
 induction d with
 |zero=>
  intro i f met out h ad a c
  obtain⟨f,rfl⟩:∃b,f=b+1:=⟨f-1,by omega⟩
  have:i=l.length:=by omega
  subst this
  rw[BG,bL,cond_false,iL]
  rfl
 |succ d j=>
  intro i f met out h ad a c
  obtain⟨f,rfl⟩:∃b,f=b+1:=⟨f-1,by omega⟩
  have hi:i<l.length:=by omega
  have m:i<=100000:=by omega
  have p:=a.len
  rw[BG,bM hi,cond_true,bw (aK hi),ae,al9 e (by omega),ae,Iw (by omega) (by simp),ae,h5 m]
  dsimp only
  rw[j (i+1) f _ _ (by omega) (by omega) (Hk a (g _ (hg hi))) (by rw[dR,c];rfl),de hi,ka]
theorem aI4(r:10000<F)(s:gk k){S:List Int}(B:S.length<=5000){q len:Nat}{m:Int}(C:q+3+len<=W.length)(D:W.length<=5000)(a:wd W (q+1)=(len:Int))(t:gJ k (wd W q)=true)(l:isLen k (wd W q) (wd W (q+1))=true)
 (hc:∀v,(true,v)∈cells k W q->v=0\/v∈S):∀(d i f:Nat)(met out:List Int),i+d=len->d<f->Ord S met->out.length+d<=5000000 ->
 yz F f m (q:Int) (i:Int) W y ol yt ot nt nx k.a6 k.aY k.Fields k.Names k.aZ met out=some (((),(),(),(),((),()),m,()),(W,y,ol,yt,ot,nt,nx,()),(k.a6,k.aY,k.Fields,k.Names,k.aZ,()),((),()),(h4 ((cells k W q).drop i) met out).1,(h4 ((cells k W q).drop i) met out).2,()):=by
 intro d
 have n:q<=100000:=by omega
 have o:q+1<W.length:=by omega
 have E:(cells k W q).length=len:=by unfold cells;rw[gC,iZ,a,bV]
 induction d with
 |zero=>
  intro i f met out h ad c u
  obtain⟨f,rfl⟩:∃e,f=e+1:=⟨f-1,by omega⟩
  have:i=len:=by omega
  subst this
  rw[yz,h5 n,e7 o,ae,a,bL,cond_false,List.drop_eq_nil_of_le (by omega)]
  rfl
 |succ d p=>
  intro i f met out h ad c u
  obtain⟨f,rfl⟩:∃e,f=e+1:=⟨f-1,by omega⟩
  have hi:i<len:=by omega
  have w:i<=100000:=by omega
  have g:q+3<=100000:=by omega
  have j:q+3+i<=100000:=by omega
  have C0:q+3+i<W.length:=by omega
  have x:q<W.length:=by omega
  have G:=c.len
  have aL:(cells k W q).drop i=(ej k (wd W q) i,wd W (q+3+i))::(cells k W q).drop (i+1):=by
   unfold cells;rw[a,bV,de (by simpa using hi),la,List.getElem_range]
  have z:tO (aO.mk k.a6 k.aY k.Fields k.Names k.aZ) (wd W q) (i:Int)=some (ej k (wd W q) i):=alj s t (by rw[a]at l;exact l) (by omega)
  rw[yz,h5 n,e7 o,ae,a,bM hi,cond_true,show I.ax ((q:Int)+3)=((q+3 :Nat):Int) from lO (b:=3) g,lO j,e7 C0,ae,e7 x,ae,z,ae,h5 w,aL]
  cases A:ej k (wd W q) i with
  |true=>
   rw[cond_true,al9 r (by omega),ae,Iw (by omega) (by simp),ae]
   dsimp only
   rw[p (i+1) f _ _ (by omega) (by omega) (Hk c (hc _ (by rw[<-A];exact l7 (i:=i) (by rw[aL];exact il)))) (by rw[dR,kg];omega),h4]
  |false=>
   rw[cond_false,Iw (by omega) (by simp),ae]
   rw[p (i+1) f _ _ (by omega) (by omega) c (by rw[dR,kg];omega),h4]
theorem aI1(u:10000<F)(w:gk k){S:List Int}(x:S.length<=5000)(z:W.length<=5000)
 (A:∀a∈S,1<=a/\a.toNat+3+(wd W (a.toNat+1)).toNat<=W.length/\gJ k (wd W a.toNat)=true/\isLen k (wd W a.toNat) (wd W (a.toNat+1))=true/\ ∀v,(true,v)∈cells k W a.toNat->v=0\/v∈S) :
 ∀(d i f:Nat)(met out:List Int),S.length<i+d->d<f->i<=met.length->Ord S met->out.length<=1000+503*i ->
 ∃g,tD F f (i:Int) W y ol yt ot nt nx k.a6 k.aY k.Fields k.Names k.aZ met out=some (((),()),(W,y,ol,yt,ot,nt,nx,()),(k.a6,k.aY,k.Fields,k.Names,k.aZ,()),((),()),g,s5 k W d i met out,()):=by
 intro d
 induction d with
 |zero=>
  intro i f met out h ad hi e
  have:=e.len
  omega
 |succ d B=>
  intro i f met out h ad hi e N
  obtain⟨f,rfl⟩:∃C,f=C+1:=⟨f-1,by omega⟩
  have P:=e.len
  rcases gL i met.length with b6 |b6
  ·have D:i<=100000:=by omega
   have s:met[i]? =some met[i]:=aK b6
   obtain⟨Q,J,t,j,n⟩:=A _ (e.sub _ (hg b6))
   obtain⟨q,o⟩:∃q:Nat,met[i]=(q:Int):=⟨met[i].toNat,by omega⟩
   rw[o,bV]at J t j n
   have R:=(kY.1 j).1
   obtain⟨len,c⟩:∃len:Nat,wd W (q+1)=(len:Int):=⟨(wd W (q+1)).toNat,by omega⟩
   have E:q<=100000:=by omega
   have G:q+2<=100000:=by omega
   have H:q<W.length:=by omega
   have wN:q+1<W.length:=by omega
   have C0:q+2<W.length:=by omega
   have K:q+3+len<=W.length:=by omega
   have L:len<=500:=by omega
   have M:(cells k W q).length=len:=by unfold cells;rw[gC,iZ,c,bV]
   have bQ:=aI4 (F:=F) (y:=y) (ol:=ol) (yt:=yt) (ot:=ot) (nt:=nt) (nx:=nx) (m:=(i:Int)) u w x K z c t j n len 0 F met (out++[wd W q,wd W (q+1),wd W (q+2)]) (by omega) (by omega) e (by rw[dR];simp only[dL,gR];omega)
   rw[hB]at bQ
   have p:yz F F (i:Int) (q:Int) 0 W y ol yt ot nt nx k.a6 k.aY k.Fields k.Names k.aZ met (out++[wd W q,wd W (q+1),wd W (q+2)])=_:=bQ
   have r:=Lj (l:=cells k W q) (out:=out++[wd W q,wd W (q+1),wd W (q+2)]) e n
   obtain⟨g,dw⟩:=B (i+1) f _ (h4 (cells k W q) met (out++[wd W q,wd W (q+1),wd W (q+2)])).2 (by omega) (by omega) (by have:=r.2.2;omega) r.1 (by
    rw[r.2.1,M,dR];simp only[dL,gR];omega)
   refine⟨g,?_⟩
   rw[tD,bM b6,cond_true,bw s,ae,o,e7 H,ae,h5 E,e7 wN,ae,show I.ax ((q:Int)+2)=((q+2 :Nat):Int) from lO (b:=2) G,e7 C0,ae,Iw (by omega) (by simp),ae,p,ae]
   dsimp only
   rw[h5 D,dw,s5,s]
   dsimp only
   rw[o,bV]
  ·have:i=met.length:=by omega
   subst this
   refine⟨met,?_⟩
   rw[tD,bL,cond_false,s5,gE (cT _)]
theorem al'(e:10000<F)(g:I.Good F h k Y O){roots:List Int}(o:roots.length<=1000)(f:∀v∈roots,v=0\/v∈Y++O) :
 yx F h.Words h.ak h.aM h.aX h.aW h.aS h.Next k.a6 k.aY k.Fields k.Names k.aZ roots=some ((hF k h.Words roots,()),())/\(hF k h.Words roots).length<=3000000:=by
 have x:=g.s.e3
 have j:(Y++O).length<=5000:=by
  have:Y.length+O.length<=5000:=(g.l.p3 g.hF g.s).pq;rw[dR];exact this
 have m:∀a∈Y++O,∀v,(true,v)∈cells k h.Words a.toNat->v=0\/v∈Y++O:=λ a b v p=>rj g b v (TN p)
 have n:=aI2 (F:=F) (W:=h.Words) (y:=h.ak) (ol:=h.aM) (yt:=h.aX) (ot:=h.aW) (nt:=h.aS) (nx:=h.Next) (k:=k) e j (by omega) f roots.length 0 F [] [] (by omega) (by omega) Ord.nil rfl
 rw[hB]at n
 have q:BG F F roots 0 h.Words h.ak h.aM h.aX h.aW h.aS h.Next k.a6 k.aY k.Fields k.Names k.aZ [] []=_:=n
 have c:=aaQ (S:=Y++O) (l:=roots) (met:=[]) (out:=[]) Ord.nil f
 have z:(ka roots [] []).2.length<=1000:=by rw[c.2];simpa using o
 obtain⟨A,ao⟩:=aI1 (F:=F) (W:=h.Words) (y:=h.ak) (ol:=h.aM) (yt:=h.aX) (ot:=h.aW) (nt:=h.aS) (nx:=h.Next) (k:=k) e g.hF j (by omega) (λ a b=>by
  obtain⟨r,s,_⟩:=g.l.fit g.s a b;obtain⟨t,u⟩:=g.l.s7 a b;exact⟨r,s,t,u,m a b⟩) 5001 0 F (ka roots [] []).1 (ka roots [] []).2 (by omega) (by omega) (gT _) c.1 (by omega)
 have w:tD F F 0 h.Words h.ak h.aM h.aX h.aW h.aS h.Next k.a6 k.aY k.Fields k.Names k.aZ (ka roots [] []).1 (ka roots [] []).2=_:=ao
 refine⟨?_,?_⟩
 ·unfold yx
  rw[q,ae]
  dsimp only
  rw[w,ae]
  rfl
 ·have:=al6 (k:=k) (W:=h.Words) (S:=Y++O) m (λ a b=>by
   have:=(kY.1 (g.l.s7 a b).2).1;omega) (d:=5001) (i:=0) (out:=(ka roots [] []).2) c.1
  unfold hF;omega
end
end Go.Proofs.YteeliipnilghaaaGreat
namespace Go.Proofs.YteeliipnilghaaaGreat
open I
section
variable{F:Nat}{h x y z:aV}{k:aO}{Y O L M:List Int}
theorem aue(a:10000<F)(C:3000000<F)(m:∃e,oE F k=some e/\tM F k=some e/\(e≠0\/(e=0/\gk k))){A B:List Int}{ry rz:List Int}(n:I.Good F y k [] A)(b:I.Good F z k [] B)(o:z.aS=[])(p:z.Next<=9223372036854775807)(g:ry.length<=1000)(i:rz.length=ry.length)
 (c:∀v∈ry,v=0\/v∈[]++A)(d:∀v∈rz,v=0\/v∈[]++B)(q:I.kG [] B rz=0)(f:hF k z.Words rz=hF k y.Words ry) :
 E8 F y.Words y.ak y.aM y.aX y.aW y.aS y.Next k.a6 k.aY k.Fields k.Names k.aZ ry z.Words z.ak z.aM z.aX z.aW z.aS z.Next rz=some ((true,()),()):=by
 obtain⟨r,j,ao,hc⟩:=aki (h:=z) a m (by rw[o];exact⟨by simp,by simp;omega⟩) p
 have s:r.2=0:=by
  have:=b.open a;rw[this]at j;obtain rfl:=eJ j;rfl
 rw[s]at ao
 have t:yM F (aV.mk z.Words z.ak z.aM z.aX z.aW z.aS z.Next) (aO.mk k.a6 k.aY k.Fields k.Names k.aZ)=_:=ao
 have u:yK F (aV.mk z.Words z.ak z.aM z.aX z.aW z.aS z.Next) (aO.mk k.a6 k.aY k.Fields k.Names k.aZ) rz=_:=aIj a b rz
 obtain⟨w,D⟩:=al' a n g c
 obtain⟨l,_⟩:=al' a b (roots:=rz) (by rw[i];exact g) d
 rw[f]at l
 unfold E8
 rw[t,ae,decide_eq_true (rfl:(0 :Int)=0),cond_true,u,ae,q,i,decide_eq_true (rfl:(0 :Int)=0),decide_eq_true (rfl:(ry.length:Int)=ry.length),mG,cond_true,w,ae,l,ae]
 dsimp only
 rw[aIO ⟨by omega,by omega⟩,ae]
theorem axE(g:I.Good F h k Y O){o:List Int}(a:Ord (Y++O) o)(c:0<=h.ak+h.aM+1-h.aW- (h.aX-1)): ¬h.aM<((gg h.Words [] o:Nat):Int):=by
 have b:=aa1 (f:=sz h.Words) a.hn a.sub;rw[jH,List.sum_append]at b;have J:=abr g.l.y;have d:=abr g.l.o;rw[Ym];obtain⟨⟨⟨e,i⟩,j,e6⟩,l,⟨m,n⟩,⟨jT,p⟩,q⟩:=id g.s;omega
end
theorem aFD(h:aV)(u:adJ Go.reachBytes h)(k:aO)(P:MO Go.reachBytes k)(roots:List Int)(_:roots.length*8<=Go.reachBytes/\ ∀x∈roots,ay.jQ x) :
 ∃F,MN F h.Words h.ak h.aM h.aX h.aW h.aS h.Next k.a6 k.aY k.Fields k.Names k.aZ roots=some ((true,()),()):=by
 refine⟨140737488355940+60,?_⟩
 have a:10000<140737488355940+60:=by omega
 have G:3000000<140737488355940+60:=by omega
 have p:=au3 P
 have H:Small (140737488355940+60) h.aS.length:=p0 7 u.2.2.2.2.2.1.1
 generalize j:(140737488355940+60 :Nat)=F at a G H⊢
 have p:∃e,oE F k=some e/\tM F k=some e/\(e≠0\/(e=0/\gk k)):=by rw[<-j];exact p
 clear j
 obtain⟨r,Q,ao,hc⟩:=aki a p H u.2.2.2.2.2.2.2
 unfold MN
 rcases hc with⟨c1,c2⟩|⟨Y,O,g,rfl⟩
 ·rw[au_ a Q c2 c1,ae,decide_eq_false c1,ja,cond_true]
 ·by_cases f:kG Y O roots=0
  ·by_cases q:h.ak+h.aM+1-h.aW- (h.aX-1)<0
   ·rw[au' a g f q,ae]
    rfl
   ·obtain⟨w,l⟩:=aaF f
    have q:0<=h.ak+h.aM+1-h.aW- (h.aX-1):=by omega
    obtain⟨t0,W,R,S,I,J,e⟩:=ava a g f q
    obtain⟨c,mc,aj⟩:=ave g R l I J
    have y:roots.map (dC (order k h Y roots) (news h.Words t0 (order k h Y roots)))=roots.map (tn h (O++order k h Y roots)):=ly λ v _=>mc v
    have m:=(aiP g l).2
    obtain⟨L,T⟩:∃L,L=O++order k h Y roots:=⟨_,rfl⟩
    rw[y]at e
    rw[<-T]at c y aj m e
    obtain⟨x,K⟩:∃x:aV,x=⟨W,h.ak,h.aM,1,((bx h.Words t0 (order k h Y roots):Nat):Int),[],h.Next⟩:=⟨_,rfl⟩
    rw[<-K]at c
    have e':qk F h.Words h.ak h.aM h.aX h.aW h.aS h.Next k.a6 k.aY k.Fields k.Names k.aZ roots=some (((x.Words,x.ak,x.aM,x.aX,x.aW,x.aS,x.Next,()),roots.map (tn h L),0,()),()):=by rw[K];exact e
    clear e y mc J I S
    have i:=c.I' g aj
    have M:=c.Hd g aj m
    have z:=c.kG g aj w m
    have b:=aCa g c aj m
    have A:x.aM=h.aM:=c.o
    have n:=axE g (Dr g l) q
    have U: ¬x.aM<((gg x.Words [] (kept k x [] (news h.Words (h.ak+1).toNat L) (roots.map (tn h L))):Nat):Int):=by rw[b,A];exact n
    obtain⟨V,X,B⟩:=(agu a i z).2 U
    obtain⟨Z,vy,s⟩:=(agu a g f).2 n
    have N:(roots.map (tn h L)).length=roots.length:=gC _
    have d:=(Dr i M).sub
    have o:=XN i M
    have t:=(Dr g l).sub
    have qB:=XN g l
    have VW:=B.I' i d
    have Jb:=s.I' g t
    have rz:=s.Hd g t qB.2
    have C:=s.kG g t w qB.2
    have ry:=B.Hd i d o.2
    have D:=B.shape i d o.2
    have cO:=s.shape g t qB.2
    have E:=c.shape g aj m
    have st:bx x.Words (x.ak+1).toNat (kept k x [] (news h.Words (h.ak+1).toNat L) (roots.map (tn h L)))=bx h.Words (h.ak+1).toNat (kept k h Y O roots):=by
     rw[GF,GF,b,c.y]
    have y6:=aue a G p VW Jb rfl u.2.2.2.2.2.2.2 (ry:=(roots.map (tn h L)).map (tn x (kept k x [] (news h.Words (h.ak+1).toNat L) (roots.map (tn h L))))) (rz:=roots.map (tn h (kept k h Y O roots))) (by rw[gC,N];exact w) (by rw[gC,gC,N]) ry rz C (by rw[cO,D,E])
    rw[e',ae]
    dsimp only
    rw[decide_eq_true (rfl:(0 :Int)=0),eb,cond_false,X,ae,vy,ae]
    dsimp only
    rw[decide_eq_true (rfl:(0 :Int)=0),eb,Bool.or_false,cond_false,y6,ae,st]
    dsimp only
    rw[decide_eq_true (rfl:((bx h.Words (h.ak+1).toNat (kept k h Y O roots):Nat):Int)=_),mG]
  ·rw[avb a g f,ae,decide_eq_false f,ja,cond_true]
end Go.Proofs.YteeliipnilghaaaGreat
namespace Go.Proofs.YteeliipnilghaaaGreat.fullBoth
open Go Go.ChangeShapes Go.WideShapes Go.ChangeAt Go.RowKit
theorem own:ownKnob Tryz.prog.godebug=none:=by kernel_rfl
set_option maxRecDepth 100000 in
theorem avc(H:Type)(enc:TypeId×Value->H)(W:World)(base:Nat)(args:Array Value)(ds gs:List (DataW H))(before:List MemPlace)
 (h:∀(j:Nat) t v,Tryz.f11.params[j]? =some t->args[j]? =some v->Value.okWide Tryz.prog W .any base t v)
 (l:DataW.Whole enc Tryz.prog Tryz.f11.params.toList Rows.fullBothSpec.vars false W args.toList ds gs before)(OD:∀n∈DataW.weightsEach Tryz.prog Tryz.f11.params.toList ds,n<=reachBytes) :
 Calls Tryz.prog 11 args W λ e cu=>∃v,e= .returned v/\Rows.fullBothSpec.post enc Tryz.prog Tryz.f11 false true false false W args v cu:=by
 have o:=l
 have s:=l.lt
 obtain⟨p,q,u,qJ,w,qN,ix⟩:=l
 have X:DataW.TrodAll enc Tryz.prog W 0 (λ _=>true) true Tryz.f11.params.toList args.toList ds p:=u
 have i:=OD
 rw[Tryz.params11]at X h i
 obtain⟨v0,aJP,a,aOf,ho,aOX,V',rfl,rfl,aE,y⟩:=trodAll_cons X
 obtain⟨v1,aO',b,aOg,c8,bq,rfl,rfl,rfl,h1,z⟩:=trodAll_cons y
 obtain⟨Y,aPa,d,aOh,eO,bA,rfl,rfl,rfl,J,A⟩:=trodAll_cons z
 obtain⟨rfl,rfl,rfl⟩:=trodAll_nil A
 obtain rfl:args= #[v0,v1,Y]:=by cases args;simp_all
 obtain⟨rfl,rfl⟩:=trodVars_none qJ
 have B:=aHU (enc:=enc) (N:=reachBytes)
 have C:=ay.TA B aE (λ x f=>s x (by subst w;simp[f]))
 have D:=C (λ m g=>i m (by simp only[DataW.weightsEach,cj];simp[g]))
 obtain⟨a,fg,iy⟩:=D
 obtain⟨v0,rfl,_⟩:=okWide_struct Tryz.underlying24 (h 0 24 v0 rfl rfl)
 obtain⟨aNR,aN7,aNS,aN8,cr,G,I⟩:=fg
 obtain rfl:=ay.adT cr
 have K:=aHV (enc:=enc) (N:=reachBytes)
 have L:=ay.TA K h1 (λ x f=>s x (by subst w;simp[f]))
 have M:=L (λ m g=>i m (by simp only[DataW.weightsEach,cj];simp[g]))
 obtain⟨b,b_,bn⟩:=M
 obtain⟨v1,rfl,_⟩:=okWide_struct Tryz.underlying30 (h 1 30 v1 rfl rfl)
 obtain⟨aNT,aN9,aNU,aN_,aNV,aN',aNW,aOa,aNX,aOb,ai,O,P,Q,R,S⟩:=b_
 obtain rfl:=ay.adT ai
 have T:=Qm (enc:=enc) (N:=reachBytes)
 have U:=ay.TA T J (λ x f=>s x (by subst w;simp[f]))
 have V:=U (λ m g=>i m (by simp only[DataW.weightsEach,cj];simp[g]))
 obtain⟨d,Z,bi⟩:=V
 obtain⟨a2,oI,c2,rfl⟩:=okWide_slice Tryz.underlying22 (h 2 22 Y rfl rfl)
 obtain⟨dn,adt,ao⟩:=ay.ny Z
 obtain⟨rfl,rfl,rfl⟩:=Value.slice.inj (fT ao).1
 obtain⟨F,aD⟩:=Go.Proofs.YteeliipnilghaaaGreat.aFD a iy b bn d bi
 have c:∀k,ay.im [] W k->k<W.heap.size/\W.heap[k]? =W.heap[k]? :=λ k hk=>⟨hk.2,rfl⟩
 have gA:((XL F).run aG [.a [.s 3 a.Words,.p (.int .i64 a.ak),.p (.int .i64 a.aM),.p (.int .i64 a.aX),.p (.int .i64 a.aW),.s 3 a.aS,.p (.int .i64 a.Next)],.a [.s 134 b.a6,.s 3 b.aY,.s 124 b.Fields,.s 120 b.Names,.s 121 b.aZ],.s 3 d] [])= .op (MN F a.Words a.ak a.aM a.aX a.aW a.aS a.Next b.a6 b.aY b.Fields b.Names b.aZ d) λ r=>.ok ⟨.ret (.p (.bool r.1.1)),[],[]⟩:=by kernel_rfl
 refine(bc.aDB (E:=aG) rfl (auP F) (ys:=[.a [.s 3 a.Words,.p (.int .i64 a.ak),.p (.int .i64 a.aM),.p (.int .i64 a.aX),.p (.int .i64 a.aW),.s 3 a.aS,.p (.int .i64 a.Next)],.a [.s 134 b.a6,.s 3 b.aY,.s 124 b.Fields,.s 120 b.Names,.s 121 b.aZ],.s 3 d]) (W:=W) (by rw[gA];exact⟨((true,()),()),aD,rfl⟩) ⟨_,_,rfl,⟨_,rfl,_,_,rfl,bc.jz (λ _ _=>Ql) ((ay.b5 _).law c G),_,_,rfl,rfl,_,_,rfl,rfl,_,_,rfl,rfl,_,_,rfl,rfl,_,_,rfl,bc.jz (λ _ _=>Ql) ((ay.b5 _).law c I),_,_,rfl,rfl,rfl⟩,_,_,rfl,⟨_,rfl,_,_,rfl,bc.jz (λ _ _=>aHN) ((ay.b5 _).law c O),_,_,rfl,bc.jz (λ _ _=>Ql) ((ay.b5 _).law c P),_,_,rfl,bc.jz (λ _ _=>aHK) ((ay.b5 _).law c Q),_,_,rfl,bc.jz (λ _ _=>aHI) ((ay.b5 _).law c R),_,_,rfl,bc.jz (λ _ _=>aHJ) ((ay.b5 _).law c S),rfl⟩,_,_,rfl,bc.jz (λ _ _=>Ql) ((ay.b5 _).law c Z),rfl⟩).mono λ e cu ⟨he,af⟩=>?_
 exact⟨_,he,ay.aFG o (by kernel_rfl) (by kernel_rfl) rfl rfl Tryz.underlying4 rfl af⟩
theorem aDz(os:Os):laidMet Tryz.prog Rows.fullBothRow.laid ((World.holding Tryz.prog os ⟨#[],#[],[]⟩).forCall (λ _ _=>0) ⟨#[],#[.agg #[.slice none 0 0,.int .i64 0,.int .i64 0,.int .i64 0,.int .i64 0,.slice none 0 0,.int .i64 0],.agg #[.slice none 0 0,.slice none 0 0,.slice none 0 0,.slice none 0 0,.slice none 0 0],.slice none 0 0],[]⟩).memory:=
 laidMet_of_run' 8 (by kernel_rfl) (by kernel_rfl)
theorem reads(os:Os){H:Type}(enc:TypeId×Value->H):∃places,DataW.whole enc Tryz.prog ((World.holding Tryz.prog os ⟨#[],#[],[]⟩).forCall (λ _ _=>0) ⟨#[],#[.agg #[.slice none 0 0,.int .i64 0,.int .i64 0,.int .i64 0,.int .i64 0,.slice none 0 0,.int .i64 0],.agg #[.slice none 0 0,.slice none 0 0,.slice none 0 0,.slice none 0 0,.slice none 0 0],.slice none 0 0],[]⟩).memory Tryz.f11.params.toList Rows.fullBothSpec.vars false (#[.agg #[.slice none 0 0,.int .i64 0,.int .i64 0,.int .i64 0,.int .i64 0,.slice none 0 0,.int .i64 0],.agg #[.slice none 0 0,.slice none 0 0,.slice none 0 0,.slice none 0 0,.slice none 0 0],.slice none 0 0]:Array Value).toList 8=some ([.agg [.nil,.lit (.int .i64 0),.lit (.int .i64 0),.lit (.int .i64 0),.lit (.int .i64 0),.nil,.lit (.int .i64 0)],.agg [.nil,.nil,.nil,.nil,.nil],.nil],[],places):=
 ⟨[],by kernel_rfl⟩
set_option maxRecDepth 100000 in
theorem lifted(os:Os)(a:os.Started)(H:Type)(enc:TypeId×Value->H)(F:Stop.Interp) :
 ReturnsInHanded {} Tryz.checked os 11 .any ((OpenSpec.ofChange Rows.fullBothSpec).preRow enc Tryz.prog Tryz.f11 Rows.fullBothRow.domain false Rows.fullBothRow.laid) (((OpenSpec.ofChange Rows.fullBothSpec).at F).post enc Tryz.prog Tryz.f11 false true false false):=by
 obtain⟨places,e⟩:=reads os enc
 refine returnsInHanded_of_row (C:=Tryz.checked) (s:=OpenSpec.ofChange Rows.fullBothSpec) own a (by kernel_rfl) Tryz.func11
  (witness_row_at (enc:=enc) (C:=Tryz.checked) false (World.holding Tryz.prog os ⟨#[],#[],[]⟩) #[.agg #[.slice none 0 0,.int .i64 0,.int .i64 0,.int .i64 0,.int .i64 0,.slice none 0 0,.int .i64 0],.agg #[.slice none 0 0,.slice none 0 0,.slice none 0 0,.slice none 0 0,.slice none 0 0],.slice none 0 0] rfl (by kernel_rfl) (by kernel_rfl) (by kernel_rfl)
   (OpenSpec.preRow_of_cond 8 e (by kernel_rfl) (λ k f=>by cases f) (by kernel_rfl) (aDz os))) ?_
 intro W base args ds gs before g c _ h b _ _ _
 exact avc H enc W base args ds gs before g c (λ n i=>by obtain⟨_,_,_,j,_,_,_⟩:=c;obtain⟨rfl,_⟩:=trodVars_none j;have d:(DataW.weightsEach Tryz.prog (Tryz.f11.params.toList++[]) (ds++[])).all (·<=reachBytes)=true:=b;rw[hR,hR]at d;exact of_decide_eq_true (k_.1 d n i))
theorem said:Rows.FullBothSaid:=
 OpenClaim.holds_of_cond 11 Tryz.f11 rfl rfl rfl rfl rfl rfl rfl ⟨rfl,rfl,rfl,rfl,rfl⟩ rfl rfl rfl rfl rfl (by kernel_rfl) Tryz.func11 (by kernel_rfl)
  (of_decide_eq_true (by kernel_rfl)) (by unfold Func.isWrapper;first |(rw[if_pos (by decide+kernel)];kernel_rfl)|(rw[if_neg (by decide+kernel)];exact⟨rfl,rfl⟩))
  (λ os a H enc _ F=>by rw[OpenClaim.pre_eq_preRow];exact lifted os a H enc F)
end Go.Proofs.YteeliipnilghaaaGreat.fullBoth
