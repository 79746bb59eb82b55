/- Part 4 of the proof that is ended in the last text: small logic, what the functions compute, walks, plain laws. -/
import Derived.Test.YteeliipnilghaaaGreatGk3
import Derived.Test.YteeliipnilghaaaGreatChecked
import Derived.KernelRfl
open Array renaming getElem?_eq_none->hJ
open Bool renaming and_eq_true->bH,not_eq_true'->gI
open List renaming cons.injEq->hA,flatMap_cons->iN,getElem?_append_right->fI,getElem?_eq_some_iff->aO,getElem?_set_self->fH,length->iv,length_reverse->lb,map_cons->eu,mem_append_left->kz,mem_cons->cR,mem_flatMap->hF,mem_singleton->dR,nodup_append->eQ,not_mem_nil->h4,range->dM
open Nat renaming beq->bS,decEq->lu,eq_of_beq_eq_true->bd,le_refl->cC,le_trans->gJ,lt_or_ge->gg
open Option renaming bind->d_,map->dV,map_eq_some_iff->cu,some.inj->ei,some.injEq->aF
namespace bc
open Go Go.RowKit aw I
structure hZ (T:bR) where
 pas:List cL
 pbs:List bI
 et:List cL
 dl:List bI
 R:Type
 fn:dn T.El pas×cF T.El pbs->Option R
 nH:dn T.El pas×cF T.El pbs->R->dn T.El et×cF T.El dl
def hZ.hI{T:bR}(c:hZ T):ej T:=⟨c.pas,c.pbs,c.et,c.dl,λ d=>(c.fn d).map (c.nH d)⟩
def hZ.run(E:Env)(c:hZ E.T)(ys:List (aH E.T.El))(bl:List (aD E.T.El)):D (fg E.T.El):=match gv [] c.pas c.pbs bl ys with
 |(a,b)=>match jU c.pbs c.dl,ii a [] false c.pas c.pbs b with
  |true,some (d,sel)=>.op (c.fn d) λ r=>.ok ⟨.ret (qB (ga (iH sel a.length) (fi a sel c.dl) c.et (c.nH d r).1)),gj a sel c.dl (c.nH d r).2,sel⟩
  |_,_=>.no
def hZ.atQ{T:bR}(c:hZ T)(d:dn T.El c.pas×cF T.El c.pbs)(r:c.R):dn T.El c.et×cF T.El c.dl:=c.nH d r
def hZ.Eq(E:Env)(bt:fb E)(LE:kV E)(f:Nat)(c:hZ E.T):Prop:=∀(da:dn E.T.El c.pas)(db:cF E.T.El c.pbs),(nQ E bt LE f (ga id (b' false c.pbs) c.pas da) (bM id (b' false c.pbs) false c.pbs db)).run c.hI.fin=(c.fn (da,db)).map (c.atQ (da,db))
structure gu (T:bR) (pas:List cL) (pbs:List bI) where
 w:j6
 R:Type
 nH:dn T.El pas×cF T.El pbs->R->xL T.El w
@[reducible] def HE{T:bR}{pas:List cL}{pbs:List bI}:List (gu T pas pbs)->Type
  |[]=>Empty
  |[w]=>w.R
  |w::v::r=>w.R⊕HE (v::r)
@[reducible] def GN{T:bR}{pas:List cL}{pbs:List bI}:List (gu T pas pbs)->List j6
  |[]=>[]
  |w::r=>w.w::GN r
def bT{T:bR}{pas:List cL}{pbs:List bI}(d:dn T.El pas×cF T.El pbs):(ws:List (gu T pas pbs))->HE ws->xM T.El (GN ws)
 |[],r=>r.elim
 |[w],r=>w.nH d r
 |w::v::ws,r=>match r with
  | .inl a=>.inl (w.nH d a)
  | .inr b=>.inr (bT d (v::ws) b)
structure bL (T:bR) where
 ss:List Nat
 pas:List cL
 pbs:List bI
 ws:List (gu T pas pbs)
 fn:Nat->dn T.El pas×cF T.El pbs->Option (HE ws)
def bL.tT{T:bR}(c:bL T):fo T:=⟨c.ss,c.pas,c.pbs,GN c.ws,λ k d=>(c.fn k d).map λ r=>bT d c.ws r⟩
def Yd(E:Env){pas:List cL}{pbs:List bI}(bl:List (aD E.T.El))(sel us:List Nat)(d:dn E.T.El pas×cF E.T.El pbs):(ws:List (gu E.T pas pbs))->Option (HE ws)->D (b6 E.T.El)
 |[],_=>.no
 |[w],o=>.op o λ r=>Pn E bl sel us w.w (w.nH d r)
 |w::v::ws,o=>.uA o (λ r=>Pn E bl sel us w.w (w.nH d r)) (λ q=>Yd E bl sel us d (v::ws) (some q))
def bL.run(E:Env)(F:Nat)(c:bL E.T)(s:eG E.T.El):D (b6 E.T.El):=match po E s.bl s.f [] (c.ss.map .tmp)with
 |some ys=>match gv [] c.pas c.pbs s.bl ys with
  |(a,b)=>match F6 c.pbs (GN c.ws)&&(jU c.pbs c.pbs&&sf c.pbs c.pbs),ii a [] false c.pas c.pbs b with
   |true,some (d,sel)=>Yd E a sel s.ws d c.ws (c.fn F d)
   |_,_=>.no
 |none=>.no
noncomputable def cO.vy{E:Env}(t:cO E)(g:Nat)(c:hZ E.T):cO E:=t.f g λ ys bl=>match c.hI.fit E ys bl with
 |true=>c.run E ys bl
 |false=>t.bt g ys bl
noncomputable def cO.JK{E:Env}(t:cO E)(g i:Nat)(c:bL E.T)(F:Nat):cO E:=t.l g i λ s=>match c.tT.fit E s with
 |true=>c.run E F s
 |false=>match t.LE g i with
  |some h=>h s
  |none=>.no
structure EA (T:bR) (pas:List cL) (pbs:List bI) where
 w:mu
 R:Type
 nH:dn T.El pas×cF T.El pbs->R->Ei T.El w
@[reducible] def HD{T:bR}{pas:List cL}{pbs:List bI}:List (EA T pas pbs)->Type
  |[]=>Empty
  |[w]=>w.R
  |w::v::r=>w.R⊕HD (v::r)
@[reducible] def Kr{T:bR}{pas:List cL}{pbs:List bI}:List (EA T pas pbs)->List mu
  |[]=>[]
  |w::r=>w.w::Kr r
def EU{T:bR}{pas:List cL}{pbs:List bI}(d:dn T.El pas×cF T.El pbs):(ws:List (EA T pas pbs))->HD ws->xK T.El (Kr ws)
 |[],r=>r.elim
 |[w],r=>w.nH d r
 |w::v::ws,r=>match r with
  | .inl a=>.inl (w.nH d a)
  | .inr b=>.inr (EU d (v::ws) b)
structure rc (T:bR) where
 pas:List cL
 pbs:List bI
 ws:List (EA T pas pbs)
 fn:dn T.El pas×cF T.El pbs->Option (HD ws)
def rc.iV{T:bR}(c:rc T):kq T:=⟨c.pas,c.pbs,Kr c.ws,λ d=>(c.fn d).map λ r=>EU d c.ws r⟩
def ZA(E:Env){pas:List cL}{pbs:List bI}(bl:List (aD E.T.El))(sel:List Nat)(d:dn E.T.El pas×cF E.T.El pbs):(ws:List (EA E.T pas pbs))->Option (HD ws)->D (fg E.T.El)
 |[],_=>.no
 |[w],o=>.op o λ r=>Kn E bl sel w.w (w.nH d r)
 |w::v::ws,o=>.uA o (λ r=>Kn E bl sel w.w (w.nH d r)) (λ q=>ZA E bl sel d (v::ws) (some q))
def rc.run(E:Env)(c:rc E.T)(ys:List (aH E.T.El))(bl:List (aD E.T.El)):D (fg E.T.El):=match gv [] c.pas c.pbs bl ys with
 |(a,b)=>match JX c.pbs (Kr c.ws),ii a [] false c.pas c.pbs b with
  |true,some (d,sel)=>ZA E a sel d c.ws (c.fn d)
  |_,_=>.no
def rc.Eq(E:Env)(bt:fb E)(LE:kV E)(f:Nat)(c:rc E.T):Prop:=∀(da:dn E.T.El c.pas)(db:cF E.T.El c.pbs),(nQ E bt LE f (ga id (b' false c.pbs) c.pas da) (bM id (b' false c.pbs) false c.pbs db)).run c.iV.fin=(c.fn (da,db)).map λ r=>EU (da,db) c.ws r
def l7(T:bR)(t bZ:Nat):hZ T:=⟨[.p (.l t)],[],[.p (.R 0)],[.r t false],List (T.El t),λ d=>bF bZ [] d.1.1,λ _ r=>(((),()),(r,()))⟩
section
variable{E:Env}{t:cO E}
theorem zK{c:hZ E.T}{ys:List (aH E.T.El)}{bl:List (aD E.T.El)}{r:fg E.T.El}(h:(c.run E ys bl).out r):(c.hI.run E ys bl).out r:=by
 unfold hZ.run at h;unfold ej.run hZ.hI;dsimp only;cases ad:gv [] c.pas c.pbs bl ys with
 |mk d e=>
 rw[ad]at h;dsimp only at h⊢;split at h
 ·rename_i a J
  rw[a,J]
  obtain⟨q,b,ak⟩:=h
  exact⟨_,by rw[b];rfl,ak⟩
 ·exact h.elim
theorem ajx{pas:List cL}{pbs:List bI}{bl:List (aD E.T.El)}{sel us:List Nat}{d:dn E.T.El pas×cF E.T.El pbs}:∀ {ws:List (gu E.T pas pbs)}{o:Option (HE ws)}{r:b6 E.T.El},(Yd E bl sel us d ws o).out r->(Gj E bl sel us (GN ws) (o.map (bT d ws))).out r
 |[],o,r,h=>h.elim
 |[w],o,r,h=>by
  obtain⟨q,a,ak⟩:=h;exact⟨_,by rw[a];rfl,ak⟩
 |w::v::ws,o,r,h=>by
  rcases h with⟨q,a,ak⟩|⟨q,a,ak⟩
  ·exact .inl ⟨_,by rw[a];rfl,ak⟩
  ·exact .inr ⟨_,by rw[a];rfl,ajx ak⟩
theorem aid{c:bL E.T}{F:Nat}{s:eG E.T.El}{r:b6 E.T.El}(h:(c.run E F s).out r):(c.tT.run E F s).out r:=by
 unfold bL.run at h;unfold fo.run bL.tT;dsimp only at h⊢;cases hy:po E s.bl s.f [] (c.ss.map .tmp)with
 |none=>rw[hy]at h;exact h.elim
 |some ys=>
  rw[hy]at h
  dsimp only at h⊢
  cases ad:gv [] c.pas c.pbs s.bl ys with
  |mk b d=>
  rw[ad]at h
  dsimp only at h⊢
  cases a:F6 c.pbs (GN c.ws)&&(jU c.pbs c.pbs&&sf c.pbs c.pbs)with
  |false=>rw[a]at h;exact h.elim
  |true=>
   cases J:ii b [] false c.pas c.pbs d with
   |none=>rw[a,J]at h;exact h.elim
   |some ds=>rw[a,J]at h;exact ajx h
theorem akb{pas:List cL}{pbs:List bI}{bl:List (aD E.T.El)}{sel:List Nat}{d:dn E.T.El pas×cF E.T.El pbs}:∀ {ws:List (EA E.T pas pbs)}{o:Option (HD ws)}{r:fg E.T.El},(ZA E bl sel d ws o).out r->(Gs E bl sel (Kr ws) (o.map λ r=>EU d ws r)).out r
 |[],o,r,h=>h.elim
 |[w],o,r,h=>by
  obtain⟨q,a,ak⟩:=h;exact⟨_,by rw[a];rfl,ak⟩
 |w::v::ws,o,r,h=>by
  rcases h with⟨q,a,ak⟩|⟨q,a,ak⟩
  ·exact .inl ⟨_,by rw[a];rfl,ak⟩
  ·exact .inr ⟨_,by rw[a];rfl,akb ak⟩
theorem aGA{c:rc E.T}{ys:List (aH E.T.El)}{bl:List (aD E.T.El)}{r:fg E.T.El}(h:(c.run E ys bl).out r):(c.iV.run E ys bl).out r:=by
 unfold rc.run at h;unfold kq.run rc.iV;dsimp only;cases ad:gv [] c.pas c.pbs bl ys with
 |mk b d=>
 rw[ad]at h;dsimp only at h⊢;split at h
 ·rename_i a J
  rw[a,J]
  exact akb h
 ·exact h.elim
theorem cO.Ok.PO(a6:c8 E)(a:E.cQ=[])(h:t.Ok){f:Nat}(ad:e2 E.cb f=true){c:rc E.T}(b:c.Eq E t.bt t.LE f):(t.f f (c.run E)).Ok:=
 h.oW ad λ ys bl r d=>adP a6 (k1 a6 h.ce h.le 100) h.le a (c:=c.iV) (λ da db _ e=>(b da db).trans e) ys bl r (aGA d)
theorem cO.Ok.rt(a6:c8 E)(a:E.cQ=[])(h:t.Ok){f:Nat}(ad:e2 E.cb f=true){c:hZ E.T}(b:c.Eq E t.bt t.LE f):(t.f f (c.run E)).Ok:=
 h.oW ad λ ys bl r d=>ES a6 (k1 a6 h.ce h.le 100) h.le a (c:=c.hI) (ej.Eq.v b) ys bl r (zK d)
theorem cO.Ok.bY(a6:c8 E)(b:E.cQ=[])(h:t.Ok){g i:Nat}(a:oj E.P g i=true){c:bL E.T}(d:c.tT.nC E t.bt (t.LE g) (fl E.P g) i (hg E.P g i))(F:Nat):(t.l g i (c.run E F)).Ok:=
 h.L4 a6 a λ e s r f=>h.Nb a6 b a d F e s r (aid f)
theorem cO.Ok.awc(a6:c8 E)(b:E.cQ=[])(h:t.Ok){f:Nat}(ad:e2 E.cb f=true){c:hZ E.T}(d:c.Eq E t.bt t.LE f):(t.vy f c).Ok:=by
 refine h.oW ad λ ys bl r a=>?_;split at a
 ·exact ES a6 (k1 a6 h.ce h.le 100) h.le b (c:=c.hI) (ej.Eq.v d) ys bl r (zK a)
 ·exact((k1 a6 h.ce h.le 100).ok f ys bl r a).2
theorem cO.Ok.aB9(a6:c8 E)(k:E.cQ=[])(h:t.Ok){g i:Nat}(a:oj E.P g i=true){c:bL E.T}(l:c.tT.nC E t.bt (t.LE g) (fl E.P g) i (hg E.P g i))(F:Nat):(t.JK g i c F).Ok:=by
 refine h.L4 a6 a λ f s r d=>?_;split at d
 ·exact h.Nb a6 k a l F f s r (aid d)
 ·split at d
  ·rename_i q m
   have v:=a
   unfold oj at a
   split at a
   ·rename_i b af
    have n:hg E.P g i=b:=by unfold hg;rw[af]
    rw[n]
    unfold p5 at af
    split at af
    ·rename_i fn j
     split at af
     ·rename_i o p
      have e:=h.le g fn o f j p
      have u:fl E.P g=fn.ntmps:=by unfold fl;rw[j]
      rw[u]
      exact wG m e af s r d
     ·simp[fh]at af
    ·simp[fh]at af
   ·cases a
  ·exact d.elim
theorem cO.Ok.Kf(a6:c8 E)(n:E.cQ=[])(h:t.Ok){f b bZ:Nat}(ad:e2 E.cb f=true)
 (o:(nQ E t.bt t.LE f [.p (.slice none 0 0)] []).run (l7 E.T b bZ).hI.fin=some (((),()),([],())))
 (p:∀(a:Addr)(c:Nat),(nQ E t.bt t.LE f [.p (.slice (some a) 0 c)] []).run (l7 E.T b bZ).hI.fin=some (((),()),([],())))
 (J:∀(d:E.T.El b)(l:List (E.T.El b)),(nQ E t.bt t.LE f [.s b (d::l)] []).run (l7 E.T b bZ).hI.fin=(bF bZ [] (d::l)).bind λ r=>some (((),()),(r,()))):(t.f f ((l7 E.T b bZ).run E)).Ok:=by
 refine h.oW ad λ ys bl r q=>ES a6 (k1 a6 h.ce h.le 100) h.le n (c:=(l7 E.T b bZ).hI) (λ da db F w ρ bl vs j=>?_) ys bl r (zK q)
 obtain⟨l,⟨⟩⟩:=da
 have s:bF bZ ([]:List (E.T.El b)) []=some []:=by simp[bF]
 have k:∀l:List (E.T.El b),(l7 E.T b bZ).hI.fn ((l,()),db)=(bF bZ [] l).bind λ r=>some (((),()),(r,())):=λ l=>by
  show dV _ (bF bZ [] l)=_
  cases bF bZ ([]:List (E.T.El b)) l<;>rfl
 cases l with
 |cons d l=>exact⟨_,j,λ r g=>(J d l).trans ((k _).symm.trans g)⟩
 |nil=>
  have m:a7 E.T F w ρ bl [.s b []] vs:=j
  simp only[a7,ar]at m
  obtain⟨u,us,rfl,ap,rfl⟩:=m
  obtain⟨A,c,e,v,ak,aS,_⟩:=ap
  simp only[hA,and_true]at e
  subst e
  have i:=k []
  rw[s]at i
  cases A with
  |none=>
   rw[aS rfl]
   exact⟨[.p (.slice none 0 0)],by simp[a7,ar],λ r g=>o.trans (i.symm.trans g)⟩
  |some a=>exact⟨[.p (.slice (some a) 0 c)],by simp[a7,ar],λ r g=>(p a c).trans (i.symm.trans g)⟩
end
end bc
namespace I
def bf{ρ α:Type}(o:Option (Way ρ α)):Option (α⊕ρ):=match o with
 |none=>none
 |some (.go a)=>some (.inl a)
 |some (.out r)=>some (.inr r)
noncomputable def dg{α:Type}(p:Prop)(o:Option α):Option α:=@ite _ p (Classical.propDecidable p) o none
theorem dA{α:Type}{p:Prop}{o:Option α}(h:p):dg p o=o:=by unfold dg;exact if_pos h
theorem dz{α:Type}{p:Prop}:dg p (none:Option α)=none:=by unfold dg;split<;>rfl
theorem ea{α:Type}{p:Prop}{o:Option α}{r:α}(h:dg p o=some r):p/\o=some r:=by
 unfold dg at h;split at h
 ·rename_i a
  exact⟨a,h⟩
 ·cases h
section
variable{α β cx q2 ρ σ:Type}
theorem aCQ(o:Option (Way ρ α))(k:α->Option (Way ρ β)):cY o k=di (bf o) k (λ r=>some (.out r)):=by
 cases o with
 |none=>rfl
 |some y=>cases y<;>rfl
theorem aC1(o:Option (Way ρ α))(k:α->Option ρ):ch o k=di (bf o) k (λ r=>some r):=by
 cases o with
 |none=>rfl
 |some y=>cases y<;>rfl
theorem aC8(a:α):bf (some (.go a):Option (Way ρ α))=some (.inl a):=rfl
theorem aC9(r:ρ):bf (some (.out r):Option (Way ρ α))=some (.inr r):=rfl
theorem aC_:bf (none:Option (Way ρ α))=none:=rfl
theorem aC'(o:Option cx)(f:cx->Option (Way ρ α)):bf (o.bind f)=o.bind λ x=>bf (f x):=by cases o<;>rfl
theorem aDa(c:Bool)(x y:Option (Way ρ α)):bf (cond c x y)=cond c (bf x) (bf y):=by cases c<;>rfl
theorem aDb(o:Option (cx⊕q2))(f:cx->Option (Way ρ α))(g:q2->Option (Way ρ α)):bf (di o f g)=di o (λ x=>bf (f x)) (λ x=>bf (g x)):=by
 cases o with
 |none=>rfl
 |some y=>cases y<;>rfl
theorem aDc(a:α)(k:α->Option cx)(l:β->Option cx):di (some (.inl a)) k l=k a:=rfl
theorem aCR(b:β)(k:α->Option cx)(l:β->Option cx):di (some (.inr b)) k l=l b:=rfl
theorem aCS(k:α->Option cx)(l:β->Option cx):di none k l=none:=rfl
theorem aCT(o:Option q2)(f:q2->Option (α⊕β))(k:α->Option cx)(l:β->Option cx):di (o.bind f) k l=o.bind λ x=>di (f x) k l:=by cases o<;>rfl
theorem aCU(c:Bool)(x y:Option (α⊕β))(k:α->Option cx)(l:β->Option cx):di (cond c x y) k l=cond c (di x k l) (di y k l):=by cases c<;>rfl
theorem aCV(o:Option (ρ⊕σ))(f:ρ->Option (α⊕β))(g:σ->Option (α⊕β))(k:α->Option cx)(l:β->Option cx):di (di o f g) k l=di o (λ x=>di (f x) k l) (λ x=>di (g x) k l):=by
 cases o with
 |none=>rfl
 |some y=>cases y<;>rfl
theorem aCW(o:Option α)(f:α->Option β)(g:β->Option cx):(o.bind f).bind g=o.bind λ x=>(f x).bind g:=by cases o<;>rfl
theorem aCX(a:α)(f:α->Option β):(some a).bind f=f a:=rfl
theorem aCY(f:α->Option β):d_ none f=none:=rfl
theorem aCZ(c:Bool)(x y:Option α)(f:α->Option β):(cond c x y).bind f=cond c (x.bind f) (y.bind f):=by cases c<;>rfl
theorem aC0(o:Option (ρ⊕σ))(k:ρ->Option α)(l:σ->Option α)(f:α->Option β):(di o k l).bind f=di o (λ x=>(k x).bind f) (λ x=>(l x).bind f):=by
 cases o with
 |none=>rfl
 |some y=>cases y<;>rfl
theorem aC2(o:Option α)(f:α->Option β)(g:β->cx):(o.bind f).map g=o.bind λ x=>(f x).map g:=by cases o<;>rfl
theorem aC3(c:Bool)(x y:Option α)(g:α->cx):(cond c x y).map g=cond c (x.map g) (y.map g):=by cases c<;>rfl
theorem aC4(a:α)(g:α->cx):(some a).map g=some (g a):=rfl
theorem aC5(g:α->cx):dV g none=none:=rfl
theorem aC6(o:Option (ρ⊕σ))(k:ρ->Option α)(l:σ->Option α)(g:α->cx):(di o k l).map g=di o (λ x=>(k x).map g) (λ x=>(l x).map g):=by
 cases o with
 |none=>rfl
 |some y=>cases y<;>rfl
theorem aC7{cM:Type}(k:cM)(b:cM->Option α):join k b=b k:=rfl
def jT{α β:Type}(o:Option (Option α×β)):Option ((α×β)⊕β):=match o with
 |none=>none
 |some (some v,e)=>some (.inl (v,e))
 |some (none,e)=>some (.inr e)
theorem aiH(o:Option (Option α×β))(f:Option α×β->Option cx):o.bind f=di (jT o) (λ p=>f (some p.1,p.2)) (λ e=>f (none,e)):=by
 rcases o with _ |⟨_ |v,e⟩<;>rfl
theorem aiI(v:α)(e:β):jT (some (some v,e))=some (.inl (v,e)):=rfl
theorem aiJ(e:β):jT (some ((none:Option α),e))=some (.inr e):=rfl
theorem aiK:jT (none:Option (Option α×β))=none:=rfl
theorem aiL(o:Option cx)(f:cx->Option (Option α×β)):jT (o.bind f)=o.bind λ x=>jT (f x):=by cases o<;>rfl
theorem aiM(c:Bool)(x y:Option (Option α×β)):jT (cond c x y)=cond c (jT x) (jT y):=by cases c<;>rfl
theorem aiN(o:Option (cx⊕q2))(f:cx->Option (Option α×β))(g:q2->Option (Option α×β)):jT (di o f g)=di o (λ x=>jT (f x)) (λ x=>jT (g x)):=by
 cases o with
 |none=>rfl
 |some y=>cases y<;>rfl
theorem aCM(b x:Bool):cond b (some x) (some false)=some (b&&x):=by cases b<;>rfl
theorem aCN{α:Type}(a b:Bool)(x y:Option α):cond a (cond b x y) y=cond (a&&b) x y:=by cases a<;>rfl
theorem XJ{α:Type}(a b:Bool)(x y:Option α):cond a x (cond b x y)=cond (a||b) x y:=by cases a<;>rfl
theorem a_:(∀ {α β ρ:Type}(o:Option (Way ρ α))(k:α->Option (Way ρ β)),cY o k=di (bf o) k (λ r=>some (.out r)))/\(∀ {α ρ:Type}(o:Option (Way ρ α))(k:α->Option ρ),ch o k=di (bf o) k (λ r=>some r))/\(∀ {α ρ:Type}(a:α),bf (some (.go a):Option (Way ρ α))=some (.inl a))/\(∀ {α ρ:Type}(r:ρ),bf (some (.out r):Option (Way ρ α))=some (.inr r))/\(∀ {α ρ:Type},bf (none:Option (Way ρ α))=none)/\(∀ {α cx ρ:Type}(o:Option cx)(f:cx->Option (Way ρ α)),bf (o.bind f)=o.bind λ x=>bf (f x))/\(∀ {α ρ:Type}(c:Bool)(x y:Option (Way ρ α)),bf (cond c x y)=cond c (bf x) (bf y))/\(∀ {α cx q2 ρ:Type}(o:Option (cx⊕q2))(f:cx->Option (Way ρ α))(g:q2->Option (Way ρ α)),bf (di o f g)=di o (λ x=>bf (f x)) (λ x=>bf (g x)))/\(∀ {α β cx:Type}(a:α)(k:α->Option cx)(l:β->Option cx),di (some (.inl a)) k l=k a)/\(∀ {α β cx:Type}(b:β)(k:α->Option cx)(l:β->Option cx),di (some (.inr b)) k l=l b)/\(∀ {α β cx:Type}(k:α->Option cx)(l:β->Option cx),di none k l=none)/\(∀ {α β cx q2:Type}(o:Option q2)(f:q2->Option (α⊕β))(k:α->Option cx)(l:β->Option cx),di (o.bind f) k l=o.bind λ x=>di (f x) k l)/\(∀ {α β cx:Type}(c:Bool)(x y:Option (α⊕β))(k:α->Option cx)(l:β->Option cx),di (cond c x y) k l=cond c (di x k l) (di y k l))/\(∀ {α β cx ρ σ:Type}(o:Option (ρ⊕σ))(f:ρ->Option (α⊕β))(g:σ->Option (α⊕β))(k:α->Option cx)(l:β->Option cx),di (di o f g) k l=di o (λ x=>di (f x) k l) (λ x=>di (g x) k l))/\(∀ {α β cx:Type}(o:Option α)(f:α->Option β)(g:β->Option cx),(o.bind f).bind g=o.bind λ x=>(f x).bind g)/\(∀ {α β:Type}(a:α)(f:α->Option β),(some a).bind f=f a)/\(∀ {α β:Type}(f:α->Option β),d_ none f=none)/\(∀ {α β:Type}(c:Bool)(x y:Option α)(f:α->Option β),(cond c x y).bind f=cond c (x.bind f) (y.bind f))/\(∀ {α β ρ σ:Type}(o:Option (ρ⊕σ))(k:ρ->Option α)(l:σ->Option α)(f:α->Option β),(di o k l).bind f=di o (λ x=>(k x).bind f) (λ x=>(l x).bind f))/\(∀ {α β cx:Type}(o:Option α)(f:α->Option β)(g:β->cx),(o.bind f).map g=o.bind λ x=>(f x).map g)/\(∀ {α cx:Type}(c:Bool)(x y:Option α)(g:α->cx),(cond c x y).map g=cond c (x.map g) (y.map g))/\(∀ {α cx:Type}(a:α)(g:α->cx),(some a).map g=some (g a))/\(∀ {α cx:Type}(g:α->cx),dV g none=none)/\(∀ {α cx ρ σ:Type}(o:Option (ρ⊕σ))(k:ρ->Option α)(l:σ->Option α)(g:α->cx),(di o k l).map g=di o (λ x=>(k x).map g) (λ x=>(l x).map g))/\(∀ {α:Type}{cM:Type}(k:cM)(b:cM->Option α),join k b=b k):=⟨aCQ,aC1,aC8,aC9,aC_,aC',aDa,aDb,aDc,aCR,aCS,aCT,aCU,aCV,aCW,aCX,aCY,aCZ,aC0,aC2,aC3,aC4,aC5,aC6,aC7⟩
end
end I
namespace bc
open Go Go.RowKit aw I
theorem bL.bV{E:Env}{bt:fb E}{LE:nB E}{n id:Nat}{body:Code}{c:bL E.T}(a:∀d,c.fn 0 d=none)
 (b:∀k (da:dn E.T.El c.pas)(db:cF E.T.El c.pbs) q,c.fn (k+1) (da,db)=some q->(den E bt LE n body (yG E c.tT da db)).run (c.tT.fin E id k)=(c.fn (k+1) (da,db)).map λ r=>bT (da,db) c.ws r):c.tT.nC E bt LE n id body:=
 ⟨λ d=>by exact(congrArg (dV _) (a d)).trans rfl,λ k da db r h=>by
  obtain⟨q,e,_⟩:=cu.1 h;exact(b k da db q e).trans h⟩
end bc
namespace bc
open Go Go.RowKit aw I
def okF(P:Program)(f:Nat):Bool:=match P.funcs[f]? with
 |some fn=>!(fn.name== "runtime.NumGoroutine")&& !fn.body.isNone
 |none=>false
theorem aiX{P:Program}{f:Nat}(h:okF P f=true)(args:Array Value)(w:World):(callFunc f args).run P w= .ok (.enter f args) w:=by
 unfold okF at h;split at h
 ·rename_i fn ad
  simp only[bH,gI]at h
  have a: ¬fn.name= "runtime.NumGoroutine" :=λ e=>by rw[e]at h;simp at h
  cases af:fn.body with
  |none=>rw[af]at h;simp at h
  |some c=>simp[callFunc,go_sem,ad,a,af]
 ·cases h
def O7(P:Program):List Nat->Bool
 |[]=>true
 |f::r=>okF P f&&O7 P r
theorem XU{P:Program}:∀ {l:List Nat}{f:Nat},O7 P l=true->f∈l->okF P f=true
 |g::r,f,h,ad=>by
  simp only[O7,bH]at h;rcases cR.1 ad with rfl |ad
  ·exact h.1
  ·exact XU h.2 ad
theorem Px{α:Type}{A B:c9 α}{F F':Nat->Prop}{w w':World}(h:∀cs d,A.rd F w cs d->B.rd F' w' cs d):∀ {l:List α}{xs:List Value},dE A F w xs l->dE B F' w' xs l
 |[],xs,a=>a
 |d::r,xs,a=>by
  obtain⟨cs,ys,rfl,b,J⟩:=a;exact⟨cs,ys,rfl,h _ _ b,Px h J⟩
theorem jl{α:Type}{A B:c9 α}{F:Nat->Prop}{w:World}(h:∀cs d,A.rd F w cs d->B.rd F w cs d){xs:List Value}{l:List α}(a:(b3 A).rd F w xs l):(b3 B).rd F w xs l:=by
 obtain⟨P,c,e,b,J,ap,f⟩:=a;refine⟨P,c,e,b,J,ap,λ g=>?_⟩;obtain⟨i,j,ys,k,m⟩:=f g;exact⟨i,j,ys,Px h k,m⟩
def AV(P:Program)(T:bR)(t:Nat)(e:b4 T.El t):Prop:=∀f,e.eq=some f-> ∀F w xs ys d e',e.ty.rd F w xs d->e.ty.rd F w ys e'-> ∀(o:Oper)(a:Act)(x y:Operand)(t':TypeId)(b:Bool),o.op= .binOp (cond b .eql .neq) t x y t'->a.eval x= .agg ⟨xs⟩->a.eval y= .agg ⟨ys⟩-> ∀w',bg P o a w' (.bool (cond b (f d e') (!f d e'))) w'
def Tl(P:Program)(T:bR):List (Σ t,b4 T.El t)->Prop
 |[]=>True
 |p::r=>AV P T p.1 p.2/\Tl P T r
theorem Tk{P:Program}{T:bR}{t:Nat}:∀ {es:List (Σ t,b4 T.El t)},Tl P T es->AV P T t (fC es t)
 |[],_=>λ f ad=>by cases ad
 |p::r,h=>by
  simp only[fC];split
  ·rename_i e _
   subst e
   exact h.1
  ·exact Tk h.2
theorem fp{P:Program}{T:bR}{t:Nat}{e:b4 T.El t}(h:e.eq=none):AV P T t e:=λ f ad=>by rw[h]at ad;cases ad
section
variable{E:Env}{f:Nat}
theorem aij(W:World):Mem E.T W [] (λ _=>False) [] [] W:=
 ⟨bp.refl _ _,rfl,λ _ h=>h.elim,λ k ⟨i,B,h,a,_⟩=>by simp at a,λ i j B C h g a=>by simp at a,λ i B h a=>by simp at a⟩
theorem aBP(c:E.cQ=[]){g:List (aH E.T.El)->List (aD E.T.El)->D (fg E.T.El)}(hc:j3 E f g){ys:List (aH E.T.El)}(d:(g ys []).out ⟨.ret (.p (.bool true)),[],[]⟩){W:World}{vs:List Value}(j:a7 E.T (λ k=>k<W.heap.size) W [] [] ys vs) :
 Calls E.P f ⟨vs⟩ W λ e w'=>e= .returned (.bool true)/\bp [] W w':=by
 have l:a7 E.T (bi (λ _=>False) ([]:List (aD E.T.El)) [] W) W [] [] ys vs:=a7.later (λ k m=>⟨⟨λ h=>h,λ⟨i,B,h,n,_⟩=>by simp at n,m⟩,rfl⟩) .refl ys j
 refine(hc ys [] _ d W [] (λ _=>False) [] W vs (aij W) (λ g y b=>by rw[c]at b;simp[cD]at b) l).mono λ e w' ⟨ρ',o,_,_,a⟩=>?_
 cases e with
 |returned v=>
  have a:v= .bool true:=by
   simp only[BF,ar]at a;exact a
  exact⟨by rw[a],o.bW⟩
 |panicked yi=>exact a.elim
 |outgrown=>exact a.elim
end
end bc
namespace bc
open Go Go.RowKit aw I
section
variable{T:bR}{W w w':World}{M0:List Nat}{X:Nat->Prop}{bl:List (aD T.El)}{ρ:List Value}{E:List ba}{D:List bD}
variable{t sz:Nat}{h:Value}{l:List (T.El t)}{xs:List Value}{R:c9 (T.El t)}
variable{t' uB:Nat}{h':Value}{l':List (T.El t')}{eU:List Value}{acN:c9 (T.El t')}
theorem axn{A:Option Addr}{n c k:Nat}(a:k∈af (.slice A n c)):k∈(Value.slice A n c).ownBlock.toList:=by
 cases A<;>cases c<;>simp_all [af,Value.ownBlock]
theorem Zx{F:Nat->Prop}{M:List Nat}(a:(ba.row t sz h l xs).ok w')(b:(bD.rows R xs l).ok M w')(e:(T.ty t).size=sz)(f:∀F cs d,R.rd F w' cs d-> ∀F',(T.ty t).rd F' w' cs d)(g k:Nat):iU T F w' ρ bl (.r t g k l) h:=by
 subst e;obtain⟨A,c,rfl,_⟩:=Kp a;exact⟨A,c,xs,rfl,.inl a,Px (λ cs d i=>f _ _ _ i _) b⟩
theorem MS(aj:bw w [] [] w' E D)(hi:ba.row t sz h l xs∈E){g k:Nat}:∀q∈bB (aD.r t g k l:aD T.El) h,q∈(ba.row t sz h l xs).bB/\w.heap.size<=q/\q<w'.heap.size:=λ q d=>by
 obtain⟨A,c,rfl,_⟩:=Kp (aj.ok _ hi);have a:q∈(ba.row t sz (.slice A l.length c) l xs).bB:=axn d;have b:=aj.lt q (hF.2 ⟨_,hi,a⟩);exact⟨a,b.2.resolve_left (by simp),b.1⟩
theorem Mem.st1(b:Mem T W M0 X bl ρ w)(aj:bw w [] [] w' (ba.row t sz h l xs::E) (bD.rows R xs l::D))(c:(T.ty t).size=sz)(e:∀F cs d,R.rd F w' cs d-> ∀F',(T.ty t).rd F' w' cs d) :
 Mem T W M0 X (bl++[.r t 0 0 l]) (ρ++[h]) w'/\To X bl (bl++[.r t 0 0 l]) ρ (ρ++[h]) w w':=
 ⟨b.push aj.bW (λ q a=>(MS (xs:=xs) (sz:=sz) aj (by simp) q a).2) (Zx (aj.e 0 rfl) (aj.d 0 rfl) c e 0 0),b.z1 aj.bW λ q a=>(MS (xs:=xs) (sz:=sz) aj (by simp) q a).2⟩
theorem Mem.st2(f:Mem T W M0 X bl ρ w)(aj:bw w [] [] w' (ba.row t sz h l xs::ba.row t' uB h' l' eU::E) (bD.rows R xs l::bD.rows acN eU l'::D))(i:(T.ty t).size=sz)(j:∀F cs d,R.rd F w' cs d-> ∀F',(T.ty t).rd F' w' cs d)
 (m:(T.ty t').size=uB)(b:∀F cs d,acN.rd F w' cs d-> ∀F',(T.ty t').rd F' w' cs d) :
 Mem T W M0 X (bl++[.r t 0 0 l,.r t' 0 0 l']) (ρ++[h,h']) w'/\To X bl (bl++[.r t 0 0 l,.r t' 0 0 l']) ρ (ρ++[h,h']) w w':=by
 have c:=MS (T:=T) (g:=0) (k:=0) (l:=l) (h:=h) (xs:=xs) (sz:=sz) aj (by simp)
 have e:=MS (T:=T) (g:=0) (k:=0) (l:=l') (h:=h') (xs:=eU) (sz:=uB) aj (by simp)
 have aL:=aj.bz
 simp only[bX,iN]at aL
 refine⟨f.ajt aj.bW (λ q a=>(c q a).2) (λ q a=>(e q a).2) (λ q n J=>?_) (Zx (aj.e 0 rfl) (aj.d 0 rfl) i j 0 0) (Zx (aj.e 1 rfl) (aj.d 1 rfl) m b 0 0),f.Z_ aj.bW (λ q a=>(c q a).2) λ q a=>(e q a).2⟩
 exact(eQ.1 aL).2.2 q (c q n).1 q (kz _ (e q J).1) rfl
end
end bc
namespace bc
open Go Go.RowKit aw I
def aac{α:Type}(T:c9 α):c9 α where
 size:=1
 rd F w cs d:=∃a q us,cs=[.pointer (some ⟨a,q,none⟩)]/\F a/\T.rd F w us d/\fa w ⟨a,q,none⟩ us
 len h:=by obtain⟨a,q,us,rfl,_⟩:=h;rfl
 one h v c:=by
  obtain⟨a,q,us,rfl,_⟩:=h;simp only[dR]at c;subst c;rfl
 law b h:=by
  obtain⟨a,q,us,rfl,e,J,ap⟩:=h;exact⟨a,q,us,rfl,(b a e).1,T.law b J,ap.law (b a e).2⟩
def Ww{El:Nat->Type}(s:Nat):List (aH El)->Option (El s)
 |[.x t d 0]=>match lu t s with
  | .isTrue h=>some (h▸d)
  | .isFalse _=>none
 |_=>none
section
variable{T:bR}{F:Nat->Prop}{w:World}{ρ:List Value}{bl:List (aD T.El)}
theorem azO{s:Nat}{l:List (aH T.El)}{d:T.El s}(h:Ww s l=some d){xs:List Value}(b:a7 T F w ρ bl l xs):(aac (T.ty s)).rd F w xs d:=by
 unfold Ww at h;split at h
 ·rename_i t d'
  split at h
  ·rename_i e _
   subst e
   simp only[aF]at h
   subst h
   simp only[a7]at b
   obtain⟨u,us,rfl,c,rfl⟩:=b
   simp only[ar]at c
   obtain⟨a,q,cs,rfl,f,J,ap⟩:=c
   exact⟨a,q,cs,rfl,f,J,ap⟩
  ·cases h
 ·cases h
theorem atN{s:Nat}{d:T.El s}{xs:List Value}(h:(aac (T.ty s)).rd F w xs d):a7 T F w ρ bl [.x s d 0] xs:=by
 obtain⟨a,q,us,rfl,b,J,ap⟩:=h;simp only[a7];refine⟨_,_,rfl,?_,rfl⟩;simp only[ar];exact⟨a,q,us,rfl,b,J,ap⟩
end
end bc
namespace Go.Proofs.YteeliipnilghaaaGreat
open Go Go.RowKit aw bc
def ck:Nat->Type:=aes [(2,Int),(3,Int),(4,Bool),(5,UInt8),(6,UInt8),(9,List UInt8),(10,List UInt8),(11,List UInt8),(21,Int),(22,List Int),(24,I.aU),(136,I.Field),(128,I.Kind),(157,I.Handler),(131,I.Method),(134,I.ao),(25,List I.ao),(124,List I.Field),(26,List (List I.Field)),(120,List (List UInt8)),(27,List (List (List UInt8))),(166,I.Target),(121,List I.Target),(28,List (List I.Target)),(30,I.aR),(31,Int),(69,I.b9),(126,List I.Kind),(129,List I.Handler),(132,List I.Method),(192,Int),(202,List (List Int)),(204,List UInt8),(219,UInt8),(220,UInt8),(223,Int),(224,Int),(109,Int)]
def aeC:List (Σ t,b4 ck t):=[]
def ak:b4 ck 2:=eY aeC false [.i .i64] (λ(d:Int)=>(d,())) (λ(p:Int×Unit)=>p.1) none (some tQ)
def E1:List (Σ t,b4 ck t):=⟨2,ak⟩::aeC
def aS:b4 ck 3:=eY E1 false [.i .i64] (λ(d:Int)=>(d,())) (λ(p:Int×Unit)=>p.1) none (some tQ)
def aeW:List (Σ t,b4 ck t):=⟨3,aS⟩::E1
def bN:b4 ck 4:=eY aeW false [.b] (λ(d:Bool)=>(d,())) (λ(p:Bool×Unit)=>p.1) none none
def Tr:List (Σ t,b4 ck t):=⟨4,bN⟩::aeW
def dq:b4 ck 5:=eY Tr false [.y] (λ(d:UInt8)=>(d,())) (λ(p:UInt8×Unit)=>p.1) none none
def aeZ:List (Σ t,b4 ck t):=⟨5,dq⟩::Tr
def eH:b4 ck 6:=eY aeZ false [.y] (λ(d:UInt8)=>(d,())) (λ(p:UInt8×Unit)=>p.1) none none
def MH:List (Σ t,b4 ck t):=⟨6,eH⟩::aeZ
def EY:b4 ck 9:=eY MH false [.s] (λ(d:List UInt8)=>(d,())) (λ(p:(List UInt8)×Unit)=>p.1) none (some Jw)
def ae':List (Σ t,b4 ck t):=⟨9,EY⟩::MH
def EV:b4 ck 10:=eY ae' false [.s] (λ(d:List UInt8)=>(d,())) (λ(p:(List UInt8)×Unit)=>p.1) none (some Jw)
def aeD:List (Σ t,b4 ck t):=⟨10,EV⟩::ae'
def EW:b4 ck 11:=eY aeD false [.s] (λ(d:List UInt8)=>(d,())) (λ(p:(List UInt8)×Unit)=>p.1) none (some Jw)
def aeE:List (Σ t,b4 ck t):=⟨11,EW⟩::aeD
def aed:b4 ck 21:=eY aeE false [.i .i32] (λ(d:Int)=>(d,())) (λ(p:Int×Unit)=>p.1) none none
def aeP:List (Σ t,b4 ck t):=⟨21,aed⟩::aeE
def aef:b4 ck 22:=eY aeP false [.l 3] (λ(d:List Int)=>(d,())) (λ(p:(List Int)×Unit)=>p.1) none none
def aeR:List (Σ t,b4 ck t):=⟨22,aef⟩::aeP
def aej:b4 ck 24:=eY aeR true [.l 3,.i .i64,.i .i64,.i .i64,.i .i64,.l 3,.i .i64] (λ(d:I.aU)=>(d.Words,d.au,d.aN,d.aX,d.aW,d.aV,d.Next,())) (λ(p:(List Int)×Int×Int×Int×Int×(List Int)×Int×Unit)=>(⟨p.1,p.2.1,p.2.2.1,p.2.2.2.1,p.2.2.2.2.1,p.2.2.2.2.2.1,p.2.2.2.2.2.2.1⟩:I.aU)) none none
def H_:List (Σ t,b4 ck t):=⟨24,aej⟩::aeR
def Tb:b4 ck 136:=eY H_ true [.s,.i .i64,.s] (λ(d:I.Field)=>(d.Name,d.Kind.Kind,d.Kind.ao,())) (λ(p:(List UInt8)×Int×(List UInt8)×Unit)=>(⟨p.1,⟨p.2.1,p.2.2.1⟩⟩:I.Field)) (some λ(d e:I.Field)=>decide (d=e)) none
def ME:List (Σ t,b4 ck t):=⟨136,Tb⟩::H_
def Ta:b4 ck 128:=eY ME true [.i .i64,.s] (λ(d:I.Kind)=>(d.Kind,d.ao,())) (λ(p:Int×(List UInt8)×Unit)=>(⟨p.1,p.2.1⟩:I.Kind)) (some λ(d e:I.Kind)=>decide (d=e)) none
def MC:List (Σ t,b4 ck t):=⟨128,Ta⟩::ME
def Tc:b4 ck 157:=eY MC true [.i .i64,.i .i64,.i .i64,.s] (λ(d:I.Handler)=>(d.From,d.To,d.At,d.ao,())) (λ(p:Int×Int×Int×(List UInt8)×Unit)=>(⟨p.1,p.2.1,p.2.2.1,p.2.2.2.1⟩:I.Handler)) (some λ(d e:I.Handler)=>decide (d=e)) none
def MF:List (Σ t,b4 ck t):=⟨157,Tc⟩::MC
def ad9:b4 ck 131:=eY MF true [.s,.b,.l 128,.i .i64,.s,.i .i64,.i .i64,.s,.l 157] (λ(d:I.Method)=>(d.Name,d.Static,d.cA,d.Returns.Kind,d.Returns.ao,d.hE,d.hC,d.Code,d.cG,())) (λ(p:(List UInt8)×Bool×(List I.Kind)×Int×(List UInt8)×Int×Int×(List UInt8)×(List I.Handler)×Unit)=>(⟨p.1,p.2.1,p.2.2.1,⟨p.2.2.2.1,p.2.2.2.2.1⟩,p.2.2.2.2.2.1,p.2.2.2.2.2.2.1,p.2.2.2.2.2.2.2.1,p.2.2.2.2.2.2.2.2.1⟩:I.Method)) none none
def MD:List (Σ t,b4 ck t):=⟨131,ad9⟩::MF
def ad':b4 ck 134:=eY MD true [.s,.s,.l 136,.l 131] (λ(d:I.ao)=>(d.Name,d.cX,d.Fields,d.bn,())) (λ(p:(List UInt8)×(List UInt8)×(List I.Field)×(List I.Method)×Unit)=>(⟨p.1,p.2.1,p.2.2.1,p.2.2.2.1⟩:I.ao)) none none
def aeL:List (Σ t,b4 ck t):=⟨134,ad'⟩::MD
def aek:b4 ck 25:=eY aeL false [.l 134] (λ(d:List I.ao)=>(d,())) (λ(p:(List I.ao)×Unit)=>p.1) none none
def Tp:List (Σ t,b4 ck t):=⟨25,aek⟩::aeL
def ad6:b4 ck 124:=eY Tp false [.l 136] (λ(d:List I.Field)=>(d,())) (λ(p:(List I.Field)×Unit)=>p.1) none none
def aeH:List (Σ t,b4 ck t):=⟨124,ad6⟩::Tp
def ael:b4 ck 26:=eY aeH false [.l 124] (λ(d:List (List I.Field))=>(d,())) (λ(p:(List (List I.Field))×Unit)=>p.1) none none
def Tq:List (Σ t,b4 ck t):=⟨26,ael⟩::aeH
def ad4:b4 ck 120:=eY Tq false [.l 9] (λ(d:List (List UInt8))=>(d,())) (λ(p:(List (List UInt8))×Unit)=>p.1) none none
def aeF:List (Σ t,b4 ck t):=⟨120,ad4⟩::Tq
def aem:b4 ck 27:=eY aeF false [.l 120] (λ(d:List (List (List UInt8)))=>(d,())) (λ(p:(List (List (List UInt8)))×Unit)=>p.1) none none
def MG:List (Σ t,b4 ck t):=⟨27,aem⟩::aeF
def Td:b4 ck 166:=eY MG true [.i .i64,.i .i64] (λ(d:I.Target)=>(d.ao,d.Method,())) (λ(p:Int×Int×Unit)=>(⟨p.1,p.2.1⟩:I.Target)) (some λ(d e:I.Target)=>decide (d=e)) none
def Tn:List (Σ t,b4 ck t):=⟨166,Td⟩::MG
def ad5:b4 ck 121:=eY Tn false [.l 166] (λ(d:List I.Target)=>(d,())) (λ(p:(List I.Target)×Unit)=>p.1) none none
def aeG:List (Σ t,b4 ck t):=⟨121,ad5⟩::Tn
def aen:b4 ck 28:=eY aeG false [.l 121] (λ(d:List (List I.Target))=>(d,())) (λ(p:(List (List I.Target))×Unit)=>p.1) none none
def aeV:List (Σ t,b4 ck t):=⟨28,aen⟩::aeG
def aeo:b4 ck 30:=eY aeV true [.l 134,.l 3,.l 124,.l 120,.l 121] (λ(d:I.aR)=>(d.a8,d.aZ,d.Fields,d.Names,d.a1,())) (λ(p:(List I.ao)×(List Int)×(List (List I.Field))×(List (List (List UInt8)))×(List (List I.Target))×Unit)=>(⟨p.1,p.2.1,p.2.2.1,p.2.2.2.1,p.2.2.2.2.1⟩:I.aR)) none none
def aeX:List (Σ t,b4 ck t):=⟨30,aeo⟩::aeV
def aep:b4 ck 31:=eY aeX false [.i .i64] (λ(d:Int)=>(d,())) (λ(p:Int×Unit)=>p.1) none (some tQ)
def aeY:List (Σ t,b4 ck t):=⟨31,aep⟩::aeX
def aeq:b4 ck 69:=eY aeY true [.l 134,.l 3,.l 124,.l 120,.l 121] (λ(d:I.b9)=>(d.K.a8,d.K.aZ,d.K.Fields,d.K.Names,d.K.a1,())) (λ(p:(List I.ao)×(List Int)×(List (List I.Field))×(List (List (List UInt8)))×(List (List I.Target))×Unit)=>(⟨⟨p.1,p.2.1,p.2.2.1,p.2.2.2.1,p.2.2.2.2.1⟩⟩:I.b9)) none none
def ae_:List (Σ t,b4 ck t):=⟨69,aeq⟩::aeY
def ad7:b4 ck 126:=eY ae_ false [.l 128] (λ(d:List I.Kind)=>(d,())) (λ(p:(List I.Kind)×Unit)=>p.1) none none
def aeI:List (Σ t,b4 ck t):=⟨126,ad7⟩::ae_
def ad8:b4 ck 129:=eY aeI false [.l 157] (λ(d:List I.Handler)=>(d,())) (λ(p:(List I.Handler)×Unit)=>p.1) none none
def aeJ:List (Σ t,b4 ck t):=⟨129,ad8⟩::aeI
def ad_:b4 ck 132:=eY aeJ false [.l 131] (λ(d:List I.Method)=>(d,())) (λ(p:(List I.Method)×Unit)=>p.1) none none
def aeK:List (Σ t,b4 ck t):=⟨132,ad_⟩::aeJ
def aea:b4 ck 192:=eY aeK false [.i .i64] (λ(d:Int)=>(d,())) (λ(p:Int×Unit)=>p.1) none (some tQ)
def aeM:List (Σ t,b4 ck t):=⟨192,aea⟩::aeK
def aeb:b4 ck 202:=eY aeM false [.l 22] (λ(d:List (List Int))=>(d,())) (λ(p:(List (List Int))×Unit)=>p.1) none none
def aeN:List (Σ t,b4 ck t):=⟨202,aeb⟩::aeM
def aec:b4 ck 204:=eY aeN false [.l 5] (λ(d:List UInt8)=>(d,())) (λ(p:(List UInt8)×Unit)=>p.1) none none
def aeO:List (Σ t,b4 ck t):=⟨204,aec⟩::aeN
def aee:b4 ck 219:=eY aeO false [.y] (λ(d:UInt8)=>(d,())) (λ(p:UInt8×Unit)=>p.1) none none
def aeQ:List (Σ t,b4 ck t):=⟨219,aee⟩::aeO
def aeg:b4 ck 220:=eY aeQ false [.y] (λ(d:UInt8)=>(d,())) (λ(p:UInt8×Unit)=>p.1) none none
def aeS:List (Σ t,b4 ck t):=⟨220,aeg⟩::aeQ
def aeh:b4 ck 223:=eY aeS false [.i .i32] (λ(d:Int)=>(d,())) (λ(p:Int×Unit)=>p.1) none none
def aeT:List (Σ t,b4 ck t):=⟨223,aeh⟩::aeS
def aei:b4 ck 224:=eY aeT false [.i .i32] (λ(d:Int)=>(d,())) (λ(p:Int×Unit)=>p.1) none none
def aeU:List (Σ t,b4 ck t):=⟨224,aei⟩::aeT
def ad3:b4 ck 109:=⟨(aac (fC aeU 3).ty:c9 (ck 109)),false,λ d=>[.x 3 (d:ck 3) 0],λ l=>(Ww (El:=ck) 3 l:Option (ck 109)),none,none⟩
def avt:List (Σ t,b4 ck t):=⟨109,ad3⟩::aeU
def bq:bR:=⟨ck,avt⟩
theorem at7:ew bq 109 ad3:=⟨λ d F w xs h=>atN (T:=bq) (s:=3) h,λ l d h F w ρ bl xs a=>azO (T:=bq) (s:=3) h a,(λ K h=>by cases h),λ h d=>rfl⟩
theorem auF:ew bq 2 ak:=e5 trivial (λ _=>rfl) (λ h=>by rfl) (λ K h F w xs k a=>by cases h;obtain⟨v,vs,rfl,b,rfl⟩:=a;exact b)
theorem auI:ew bq 3 aS:=e5 trivial (λ _=>rfl) (λ h=>by rfl) (λ K h F w xs k a=>by cases h;obtain⟨v,vs,rfl,b,rfl⟩:=a;exact b)
theorem auK:ew bq 4 bN:=e5 trivial (λ _=>rfl) (λ h=>by rfl) (λ K h=>by cases h)
theorem auL:ew bq 5 dq:=e5 trivial (λ _=>rfl) (λ h=>by rfl) (λ K h=>by cases h)
theorem auN:ew bq 6 eH:=e5 trivial (λ _=>rfl) (λ h=>by rfl) (λ K h=>by cases h)
theorem auO:ew bq 9 EY:=e5 trivial (λ _=>rfl) (λ h=>by rfl) (λ K h F w xs k a=>by cases h;obtain⟨v,vs,rfl,b,rfl⟩:=a;exact b)
theorem at8:ew bq 10 EV:=e5 trivial (λ _=>rfl) (λ h=>by rfl) (λ K h F w xs k a=>by cases h;obtain⟨v,vs,rfl,b,rfl⟩:=a;exact b)
theorem at9:ew bq 11 EW:=e5 trivial (λ _=>rfl) (λ h=>by rfl) (λ K h F w xs k a=>by cases h;obtain⟨v,vs,rfl,b,rfl⟩:=a;exact b)
theorem auu:ew bq 21 aed:=e5 trivial (λ _=>rfl) (λ h=>by rfl) (λ K h=>by cases h)
theorem auz:ew bq 22 aef:=e5 ⟨by kernel_rfl,trivial⟩ (λ _=>rfl) (λ h=>by rfl) (λ K h=>by cases h)
theorem auA:ew bq 24 aej:=e5 ⟨by kernel_rfl,by kernel_rfl,trivial⟩ (λ _=>rfl) (λ h=>by cases h) (λ K h=>by cases h)
theorem auk:ew bq 136 Tb:=e5 trivial (λ _=>rfl) (λ h=>by cases h) (λ K h=>by cases h)
theorem aue:ew bq 128 Ta:=e5 trivial (λ _=>rfl) (λ h=>by cases h) (λ K h=>by cases h)
theorem aum:ew bq 157 Tc:=e5 trivial (λ _=>rfl) (λ h=>by cases h) (λ K h=>by cases h)
theorem auh:ew bq 131 ad9:=e5 ⟨by kernel_rfl,by kernel_rfl,trivial⟩ (λ _=>rfl) (λ h=>by cases h) (λ K h=>by cases h)
theorem auj:ew bq 134 ad':=e5 ⟨by kernel_rfl,by kernel_rfl,trivial⟩ (λ _=>rfl) (λ h=>by cases h) (λ K h=>by cases h)
theorem auB:ew bq 25 aek:=e5 ⟨by kernel_rfl,trivial⟩ (λ _=>rfl) (λ h=>by rfl) (λ K h=>by cases h)
theorem auc:ew bq 124 ad6:=e5 ⟨by kernel_rfl,trivial⟩ (λ _=>rfl) (λ h=>by rfl) (λ K h=>by cases h)
theorem auC:ew bq 26 ael:=e5 ⟨by kernel_rfl,trivial⟩ (λ _=>rfl) (λ h=>by rfl) (λ K h=>by cases h)
theorem aua:ew bq 120 ad4:=e5 ⟨by kernel_rfl,trivial⟩ (λ _=>rfl) (λ h=>by rfl) (λ K h=>by cases h)
theorem auD:ew bq 27 aem:=e5 ⟨by kernel_rfl,trivial⟩ (λ _=>rfl) (λ h=>by rfl) (λ K h=>by cases h)
theorem auo:ew bq 166 Td:=e5 trivial (λ _=>rfl) (λ h=>by cases h) (λ K h=>by cases h)
theorem aub:ew bq 121 ad5:=e5 ⟨by kernel_rfl,trivial⟩ (λ _=>rfl) (λ h=>by rfl) (λ K h=>by cases h)
theorem auE:ew bq 28 aen:=e5 ⟨by kernel_rfl,trivial⟩ (λ _=>rfl) (λ h=>by rfl) (λ K h=>by cases h)
theorem auG:ew bq 30 aeo:=e5 ⟨by kernel_rfl,by kernel_rfl,by kernel_rfl,by kernel_rfl,by kernel_rfl,trivial⟩ (λ _=>rfl) (λ h=>by cases h) (λ K h=>by cases h)
theorem auH:ew bq 31 aep:=e5 trivial (λ _=>rfl) (λ h=>by rfl) (λ K h F w xs k a=>by cases h;obtain⟨v,vs,rfl,b,rfl⟩:=a;exact b)
theorem auM:ew bq 69 aeq:=e5 ⟨by kernel_rfl,by kernel_rfl,by kernel_rfl,by kernel_rfl,by kernel_rfl,trivial⟩ (λ _=>rfl) (λ h=>by cases h) (λ K h=>by cases h)
theorem aud:ew bq 126 ad7:=e5 ⟨by kernel_rfl,trivial⟩ (λ _=>rfl) (λ h=>by rfl) (λ K h=>by cases h)
theorem auf:ew bq 129 ad8:=e5 ⟨by kernel_rfl,trivial⟩ (λ _=>rfl) (λ h=>by rfl) (λ K h=>by cases h)
theorem aui:ew bq 132 ad_:=e5 ⟨by kernel_rfl,trivial⟩ (λ _=>rfl) (λ h=>by rfl) (λ K h=>by cases h)
theorem auq:ew bq 192 aea:=e5 trivial (λ _=>rfl) (λ h=>by rfl) (λ K h F w xs k a=>by cases h;obtain⟨v,vs,rfl,b,rfl⟩:=a;exact b)
theorem aur:ew bq 202 aeb:=e5 ⟨by kernel_rfl,trivial⟩ (λ _=>rfl) (λ h=>by rfl) (λ K h=>by cases h)
theorem aus:ew bq 204 aec:=e5 ⟨by kernel_rfl,trivial⟩ (λ _=>rfl) (λ h=>by rfl) (λ K h=>by cases h)
theorem aut:ew bq 219 aee:=e5 trivial (λ _=>rfl) (λ h=>by rfl) (λ K h=>by cases h)
theorem auv:ew bq 220 aeg:=e5 trivial (λ _=>rfl) (λ h=>by rfl) (λ K h=>by cases h)
theorem auw:ew bq 223 aeh:=e5 trivial (λ _=>rfl) (λ h=>by rfl) (λ K h=>by cases h)
theorem auy:ew bq 224 aei:=e5 trivial (λ _=>rfl) (λ h=>by rfl) (λ K h=>by cases h)
theorem akY:x9 bq:=aHl ⟨at7,auy,auw,auv,aut,aus,aur,auq,aui,auf,aud,auM,auH,auG,auE,aub,auo,auD,aua,auC,auc,auB,auj,auh,aum,aue,auk,auA,auz,auu,at9,at8,auO,auN,auL,auK,auI,auF,trivial⟩
end Go.Proofs.YteeliipnilghaaaGreat
namespace Go.Proofs.YteeliipnilghaaaGreat
open Go Go.RowKit aw I bc
noncomputable def aE:Env:=⟨Tryz.prog,bq,[],false,(dM 174).drop 2,5,λ l=>l⟩
noncomputable def lB:Env:=⟨Tryz.prog,bq,[],true,(dM 174).drop 2,5,λ l=>l⟩
noncomputable def iR:cO aE:=⟨[],[]⟩
theorem aDm(a6:c8 aE)(h:iR.Ok):(iR.f 37 ((l7 aE.T 3 8).run aE)).Ok:=h.Kf a6 rfl rfl (by kernel_rfl) (λ a c=>by kernel_rfl) λ d l=>by kernel_rfl
noncomputable def AQ:cO aE:=iR.f 37 ((l7 aE.T 3 8).run aE)
theorem aDn(a6:c8 aE)(h:AQ.Ok):(AQ.f 108 ((l7 aE.T 136 40).run aE)).Ok:=h.Kf a6 rfl rfl (by kernel_rfl) (λ a c=>by kernel_rfl) λ d l=>by kernel_rfl
noncomputable def q5:cO aE:=AQ.f 108 ((l7 aE.T 136 40).run aE)
theorem aDo(a6:c8 aE)(h:q5.Ok):(q5.f 109 ((l7 aE.T 131 128).run aE)).Ok:=h.Kf a6 rfl rfl (by kernel_rfl) (λ a c=>by kernel_rfl) λ d l=>by kernel_rfl
noncomputable def RS:cO aE:=q5.f 109 ((l7 aE.T 131 128).run aE)
theorem aDp(a6:c8 aE)(h:RS.Ok):(RS.f 110 ((l7 aE.T 128 24).run aE)).Ok:=h.Kf a6 rfl rfl (by kernel_rfl) (λ a c=>by kernel_rfl) λ d l=>by kernel_rfl
noncomputable def RT:cO aE:=RS.f 110 ((l7 aE.T 128 24).run aE)
theorem aDq(a6:c8 aE)(h:RT.Ok):(RT.f 111 ((l7 aE.T 157 40).run aE)).Ok:=h.Kf a6 rfl rfl (by kernel_rfl) (λ a c=>by kernel_rfl) λ d l=>by kernel_rfl
noncomputable def aor:cO aE:=RT.f 111 ((l7 aE.T 157 40).run aE)
end Go.Proofs.YteeliipnilghaaaGreat
namespace Go.Proofs.YteeliipnilghaaaGreat
open Go Go.RowKit aw I bc
theorem aDZ:AV Tryz.prog bq 136 Tb:=by
 intro f ad F w xs ys d e i hy o a x y t' b c g h w';obtain rfl:=ei ad;obtain⟨_,_,rfl,rfl,_,_,rfl,rfl,_,_,rfl,rfl,rfl⟩:=i;obtain⟨_,_,rfl,rfl,_,_,rfl,rfl,_,_,rfl,rfl,rfl⟩:=hy;cases b
 ·exact avo c g h
 ·exact avk c g h
theorem aDY:AV Tryz.prog bq 128 Ta:=by
 intro f ad F w xs ys d e i hy o a x y t' b c g h w';obtain rfl:=ei ad;obtain⟨_,_,rfl,rfl,_,_,rfl,rfl,rfl⟩:=i;obtain⟨_,_,rfl,rfl,_,_,rfl,rfl,rfl⟩:=hy;cases b
 ·exact avq c g h
 ·exact avm c g h
theorem aD0:AV Tryz.prog bq 157 Tc:=by
 intro f ad F w xs ys d e i hy o a x y t' b c g h w';obtain rfl:=ei ad;obtain⟨_,_,rfl,rfl,_,_,rfl,rfl,_,_,rfl,rfl,_,_,rfl,rfl,rfl⟩:=i;obtain⟨_,_,rfl,rfl,_,_,rfl,rfl,_,_,rfl,rfl,_,_,rfl,rfl,rfl⟩:=hy;cases b
 ·exact avp c g h
 ·exact avl c g h
theorem aD1:AV Tryz.prog bq 166 Td:=by
 intro f ad F w xs ys d e i hy o a x y t' b c g h w';obtain rfl:=ei ad;obtain⟨_,_,rfl,rfl,_,_,rfl,rfl,rfl⟩:=i;obtain⟨_,_,rfl,rfl,_,_,rfl,rfl,rfl⟩:=hy;cases b
 ·exact avr c g h
 ·exact avn c g h
theorem aeB:Tl Tryz.prog bq bq.es:=⟨fp rfl,fp rfl,fp rfl,fp rfl,fp rfl,fp rfl,fp rfl,fp rfl,fp rfl,fp rfl,fp rfl,fp rfl,fp rfl,fp rfl,fp rfl,fp rfl,aD1,fp rfl,fp rfl,fp rfl,fp rfl,fp rfl,fp rfl,fp rfl,aD0,aDY,aDZ,fp rfl,fp rfl,fp rfl,fp rfl,fp rfl,fp rfl,fp rfl,fp rfl,fp rfl,fp rfl,fp rfl,trivial⟩
theorem afG:O7 Tryz.prog aE.cb=true:=by kernel_rfl
theorem ac8(F:Nat->Prop)(w:World)(l:List UInt8)(xs:List Value)(h:dE Qb F w xs l):dE (bq.ty 5) F w xs l:=by
 refine Px (A:=Qb) (B:=bq.ty 5) (λ cs d h=>?_) h;change e4 (λ t=>(fC Tr t).ty) F w [.y] cs (d,());exact⟨_,_,h,rfl,rfl⟩
theorem jG:c8 aE:=⟨akY,λ f ad=>aiX (XU afG ad),by kernel_rfl,λ l=>rfl,ac8,λ t=>Tk aeB⟩
theorem My:c8 lB:=⟨akY,λ f ad=>aiX (XU afG ad),by kernel_rfl,λ l=>rfl,ac8,λ t=>Tk aeB⟩
end Go.Proofs.YteeliipnilghaaaGreat
namespace I
def fK(a:Int)(b:Int)(c:Int):Option (Bool):=
 some ((decide (b<=a))&&(decide (a<=c)))
def mI(a:Int)(b:Int)(c:Int):Option (Bool):=
 some ((decide (b<=a))&&(decide (a<=c)))
def NS(a:Int):Option (Bool):=
 some ((decide (a=3))||(decide (a=4)))
def Cy(b:List UInt8):Nat->Int->Option (Way (Bool) (Unit))
 |0,_=>none
 |bP+1,c=>
  cond (decide (c<(b.length:Int))) ((idx b c).bind λ a=>
  cond (((((decide ((a.toNat:Int)<97))||(decide (122<(a.toNat:Int))))&&((decide ((a.toNat:Int)<65))||(decide (90<(a.toNat:Int)))))&&((decide ((a.toNat:Int)<48))||(decide (57<(a.toNat:Int)))))&&(!decide ((a.toNat:Int)=95))) (some (.out false)) (Cy b bP (ax (c+1)))) (some (.go ()))
def n9(F:Nat)(s_:List UInt8):Option (Bool):=
 (bytesOf s_).bind λ a=>
 ch (α:=Unit) (Cy a F 0) λ(_:Unit)=>
 some ((!decide (s_=[]))&&(decide ((s_.length:Int)<=20)))
def wg(F:Nat)(a:Kind):Option (Bool):=
 (NS a.Kind).bind λ b=>
 cond (b) ((n9 F a.ao).bind λ c=>
 some c) (some (((decide (a.Kind=1))||(decide (a.Kind=2)))&&(decide (a.ao=[]))))
def s4(s_:List UInt8):Nat->Int->Option (Way (Bool) (Unit))
 |0,_=>none
 |bP+1,b=>
  cond (decide (b<(s_.length:Int))) ((idx s_ b).bind λ a=>
  cond (!(((((decide (97<=(a.toNat:Int)))&&(decide ((a.toNat:Int)<=122)))||((decide (65<=(a.toNat:Int)))&&(decide ((a.toNat:Int)<=90))))||((decide (48<=(a.toNat:Int)))&&(decide ((a.toNat:Int)<=57))))||(decide ((a.toNat:Int)=95)))) (some (.out false)) (s4 s_ bP (ax (b+1)))) (some (.go ()))
def oT(F:Nat)(s_:List UInt8):Option (Bool):=
 ch (α:=Unit) (s4 s_ F 0) λ(_:Unit)=>
 some ((decide (1<=(s_.length:Int)))&&(decide ((s_.length:Int)<=20)))
def u9(F:Nat)(a:Kind):Option (Bool):=
 cond ((decide (a.Kind=1))||(decide (a.Kind=2))) (some (decide (a.ao=[]))) (cond ((decide (a.Kind=3))||(decide (a.Kind=4))) ((oT F a.ao).bind λ b=>
 some b) (some false))
end I
namespace I
def yU(F:Nat)(b:Method):Nat->Int->Option (Way (Int) (Unit))
 |0,_=>none
 |bP+1,c=>
  cond (decide (c<(b.cA.length:Int))) ((idx b.cA c).bind λ a=>
  (wg F (⟨a.Kind,a.ao⟩:Kind)).bind λ d=>
  cond (!d) (some (.out 7)) (yU F b bP (ax (c+1)))) (some (.go ()))
def CC(F:Nat)(b:Method):Nat->Int->Option (Way (Int) (Unit))
 |0,_=>none
 |ey+1,C2=>
  cond (decide (C2<(b.cG.length:Int))) ((idx b.cG C2).bind λ a=>
  (n9 F a.ao).bind λ c=>
  cond (!c) (some (.out 1)) ((mI a.From 0 200).bind λ d=>
  cond (!d) (some (.out 3)) ((mI a.To 0 200).bind λ e=>
  cond (!e) (some (.out 3)) ((mI a.At 0 200).bind λ f=>
  cond (!f) (some (.out 3)) (CC F b ey (ax (C2+1))))))) (some (.go ()))
def rU(F:Nat)(b:Method):Nat->Int->Option (Way (Int) (Unit))
 |0,_=>none
 |ho+1,c=>
  cond (decide (c<(b.cG.length:Int))) ((idx b.cG c).bind λ a=>
  (n9 F a.ao).bind λ d=>
  cond (!d) (some (.out 1)) ((mI a.From 0 200).bind λ e=>
  cond (!e) (some (.out 3)) ((mI a.To 0 200).bind λ f=>
  cond (!f) (some (.out 3)) ((mI a.At 0 200).bind λ g=>
  cond (!g) (some (.out 3)) (rU F b ho (ax (c+1))))))) (some (.go ()))
def CB(F:Nat)(a:Method):Option (Int):=
 (n9 F a.Name).bind λ Dj=>
 cond (!Dj) (some 1) (cond (((decide (4<(a.cA.length:Int)))||(decide (200<(a.Code.length:Int))))||(decide (4<(a.cG.length:Int)))) (some 2) ((mI a.hE 0 10).bind λ c=>
 cond (!c) (some 3) ((mI a.hC 0 10).bind λ d=>
 cond (!d) (some 3) (ch (α:=Unit) (yU F a F 0) λ(_:Unit)=>
 cond (!decide ((⟨a.Returns.Kind,a.Returns.ao⟩:Kind)=(⟨0,[]⟩:Kind))) ((wg F (⟨a.Returns.Kind,a.Returns.ao⟩:Kind)).bind λ b=>
 cond (!b) (some 7) (ch (α:=Unit) (CC F a F 0) λ(_:Unit)=>
 some 0)) (ch (α:=Unit) (rU F a F 0) λ(_:Unit)=>
 some 0)))))
def Cz(F:Nat)(c_:ao):Nat->Int->Option (Way (Int) (Unit))
 |0,_=>none
 |bP+1,b=>
  cond (decide (b<(c_.Fields.length:Int))) ((idx c_.Fields b).bind λ a=>
  (n9 F a.Name).bind λ Kd=>
  cond (!Kd) (some (.out 1)) ((wg F (⟨a.Kind.Kind,a.Kind.ao⟩:Kind)).bind λ c=>
  cond (!c) (some (.out 7)) (Cz F c_ bP (ax (b+1))))) (some (.go ()))
def CA(F:Nat)(c_:ao):Nat->Int->Option (Way (Int) (Unit))
 |0,_=>none
 |ey+1,C2=>
  cond (decide (C2<(c_.bn.length:Int))) ((idx c_.bn C2).bind λ a=>
  (CB F (⟨a.Name,a.Static,a.cA,(⟨a.Returns.Kind,a.Returns.ao⟩:Kind),a.hE,a.hC,a.Code,a.cG⟩:Method)).bind λ b=>
  cond (!decide (b=0)) (some (.out b)) (CA F c_ ey (ax (C2+1)))) (some (.go ()))
def wc(F:Nat)(c_:ao):Nat->Int->Option (Way (Int) (Unit))
 |0,_=>none
 |ho+1,b=>
  cond (decide (b<(c_.Fields.length:Int))) ((idx c_.Fields b).bind λ a=>
  (n9 F a.Name).bind λ c=>
  cond (!c) (some (.out 1)) ((wg F (⟨a.Kind.Kind,a.Kind.ao⟩:Kind)).bind λ d=>
  cond (!d) (some (.out 7)) (wc F c_ ho (ax (b+1))))) (some (.go ()))
def rT(F:Nat)(c_:ao):Nat->Int->Option (Way (Int) (Unit))
 |0,_=>none
 |lU+1,c=>
  cond (decide (c<(c_.bn.length:Int))) ((idx c_.bn c).bind λ a=>
  (CB F (⟨a.Name,a.Static,a.cA,(⟨a.Returns.Kind,a.Returns.ao⟩:Kind),a.hE,a.hC,a.Code,a.cG⟩:Method)).bind λ b=>
  cond (!decide (b=0)) (some (.out b)) (rT F c_ lU (ax (c+1)))) (some (.go ()))
def Jp(F:Nat)(c_:ao):Option (Int):=
 (n9 F c_.Name).bind λ Dj=>
 cond (!Dj) (some 1) (cond (!decide (c_.cX=[])) ((n9 F c_.cX).bind λ a=>
 cond (!a) (some 1) (cond ((decide (6<(c_.Fields.length:Int)))||(decide (8<(c_.bn.length:Int)))) (some 2) (ch (α:=Unit) (Cz F c_ F 0) λ(_:Unit)=>
 ch (α:=Unit) (CA F c_ F 0) λ(_:Unit)=>
 some 0))) (cond ((decide (6<(c_.Fields.length:Int)))||(decide (8<(c_.bn.length:Int)))) (some 2) (ch (α:=Unit) (wc F c_ F 0) λ(_:Unit)=>
 ch (α:=Unit) (rT F c_ F 0) λ(_:Unit)=>
 some 0)))
def yT(F:Nat)(c:List ao):Nat->Int->Option (Way (Int) (Unit))
 |0,_=>none
 |bP+1,d=>
  cond (decide (d<(c.length:Int))) ((idx c d).bind λ b=>
  (Jp F (⟨b.Name,b.cX,b.Fields,b.bn⟩:ao)).bind λ a=>
  cond (!decide (a=0)) (some (.out a)) (yT F c bP (ax (d+1)))) (some (.go ()))
def Jo(F:Nat)(a:List ao):Option (Int):=
 cond (decide (10<(a.length:Int))) (some 2) (ch (α:=Unit) (yT F a F 0) λ(_:Unit)=>
 some 0)
def Bg(F:Nat)(a:Method):Nat->Int->Option (Way (Int) (Unit))
 |0,_=>none
 |bP+1,b=>
  cond (decide (b<(a.cA.length:Int))) ((idx a.cA b).bind λ c=>
  (u9 F c).bind λ d=>
  cond (!d) (some (.out 7)) (Bg F a bP (ax (b+1)))) (some (.go ()))
def Bh(F:Nat)(b:Method):Nat->Int->Option (Way (Int) (Unit))
 |0,_=>none
 |ey+1,Xt=>
  cond (decide (Xt<(b.cG.length:Int))) ((idx b.cG Xt).bind λ a=>
  (oT F a.ao).bind λ c=>
  cond (!c) (some (.out 1)) ((fK a.From 0 200).bind λ d=>
  cond (!d) (some (.out 3)) ((fK a.To 0 200).bind λ e=>
  cond (!e) (some (.out 3)) ((fK a.At 0 200).bind λ f=>
  cond (!f) (some (.out 3)) (Bh F b ey (ax (Xt+1))))))) (some (.go ()))
def Bf(F:Nat)(a:Method):Option (Int):=
 (oT F a.Name).bind λ Dj=>
 cond (!Dj) (some 1) (cond (((decide (4<(a.cA.length:Int)))||(decide (200<(a.Code.length:Int))))||(decide (4<(a.cG.length:Int)))) (some 2) ((fK a.hE 0 10).bind λ c=>
 cond (!c) (some 3) ((fK a.hC 0 10).bind λ d=>
 cond (!d) (some 3) (ch (α:=Unit) (Bg F a F 0) λ(_:Unit)=>
 (u9 F (⟨a.Returns.Kind,a.Returns.ao⟩:Kind)).bind λ b=>
 cond ((!b)&&((!decide (a.Returns.Kind=0))||(!decide (a.Returns.ao=[])))) (some 7) (ch (α:=Unit) (Bh F a F 0) λ(_:Unit)=>
 some 0)))))
def Es(F:Nat)(b:ao):Nat->Int->Option (Way (Int) (Unit))
 |0,_=>none
 |ey+1,c=>
  cond (decide (c<(b.Fields.length:Int))) ((idx b.Fields c).bind λ d=>
  (oT F d.Name).bind λ e=>
  cond (!e) (some (.out 1)) ((idx b.Fields c).bind λ a=>
  (u9 F (⟨a.Kind.Kind,a.Kind.ao⟩:Kind)).bind λ f=>
  cond (!f) (some (.out 7)) (Es F b ey (ax (c+1))))) (some (.go ()))
def Et(F:Nat)(b:ao):Nat->Int->Option (Way (Int) (Unit))
 |0,_=>none
 |ho+1,c=>
  cond (decide (c<(b.bn.length:Int))) ((idx b.bn c).bind λ d=>
  (Bf F d).bind λ a=>
  cond (!decide (a=0)) (some (.out a)) (Et F b ho (ax (c+1)))) (some (.go ()))
def xU(F:Nat)(b:ao):Nat->Int->Option (Way (Int) (Unit))
 |0,_=>none
 |lU+1,C5=>
  cond (decide (C5<(b.Fields.length:Int))) ((idx b.Fields C5).bind λ c=>
  (oT F c.Name).bind λ d=>
  cond (!d) (some (.out 1)) ((idx b.Fields C5).bind λ a=>
  (u9 F (⟨a.Kind.Kind,a.Kind.ao⟩:Kind)).bind λ e=>
  cond (!e) (some (.out 7)) (xU F b lU (ax (C5+1))))) (some (.go ()))
def xV(F:Nat)(b:ao):Nat->Int->Option (Way (Int) (Unit))
 |0,_=>none
 |tP+1,c=>
  cond (decide (c<(b.bn.length:Int))) ((idx b.bn c).bind λ d=>
  (Bf F d).bind λ a=>
  cond (!decide (a=0)) (some (.out a)) (xV F b tP (ax (c+1)))) (some (.go ()))
def A1(F:Nat)(b:List ao):Nat->Int->Option (Way (Int) (Unit))
 |0,_=>none
 |bP+1,c=>
  cond (decide (c<(b.length:Int))) (cY (α:=Unit) ((idx b c).bind λ a=>
  (oT F a.Name).bind λ d=>
  cond (!d) (some (.out 1)) (cond (!decide (a.cX=[])) ((oT F a.cX).bind λ e=>
  cond (!e) (some (.out 1)) (cond ((decide (6<(a.Fields.length:Int)))||(decide (8<(a.bn.length:Int)))) (some (.out 2)) (cY (α:=Unit) (Es F a F 0) λ(_:Unit)=>
  cY (α:=Unit) (Et F a F 0) λ(_:Unit)=>
  some (.go ())))) (cond ((decide (6<(a.Fields.length:Int)))||(decide (8<(a.bn.length:Int)))) (some (.out 2)) (cY (α:=Unit) (xU F a F 0) λ(_:Unit)=>
  cY (α:=Unit) (xV F a F 0) λ(_:Unit)=>
  some (.go ()))))) λ(_:Unit)=>
  A1 F b bP (ax (c+1))) (some (.go ()))
def HF(F:Nat)(a:List ao):Option (Int):=
 cond (decide (10<(a.length:Int))) (some 2) (ch (α:=Unit) (A1 F a F 0) λ(_:Unit)=>
 some 0)
end I
namespace I
def pX(b8:List Kind)(b:List Kind):Nat->Int->Option (Way (Bool) (Unit))
 |0,_=>none
 |bP+1,a=>
  cond (decide (a<(b8.length:Int))) ((idx b8 a).bind λ c=>
  (idx b a).bind λ d=>
  cond (!decide (c=d)) (some (.out false)) (pX b8 b bP (ax (a+1)))) (some (.go ()))
def u'(F:Nat)(b8:List Kind)(a:List Kind):Option (Bool):=
 cond (!decide ((b8.length:Int)=(a.length:Int))) (some false) (ch (α:=Unit) (pX b8 a F 0) λ(_:Unit)=>
 some true)
def Bu(b8:List Field)(b:List Field):Nat->Int->Option (Way (Bool) (Unit))
 |0,_=>none
 |bP+1,a=>
  cond (decide (a<(b8.length:Int))) ((idx b8 a).bind λ c=>
  (idx b a).bind λ d=>
  cond (!decide (c=d)) (some (.out false)) (Bu b8 b bP (ax (a+1)))) (some (.go ()))
def Ey(F:Nat)(b8:List Field)(a:List Field):Option (Bool):=
 cond (!decide ((b8.length:Int)=(a.length:Int))) (some false) (ch (α:=Unit) (Bu b8 a F 0) λ(_:Unit)=>
 some true)
def Bt(b:Method)(e:Method):Nat->Int->Option (Way (Bool) (Unit))
 |0,_=>none
 |ho+1,a=>
  cond (decide (a<(b.cG.length:Int))) ((idx b.cG a).bind λ c=>
  (idx e.cG a).bind λ d=>
  cond (!decide (c=d)) (some (.out false)) (Bt b e ho (ax (a+1)))) (some (.go ()))
def Bs(F:Nat)(d:ao)(f:ao):Nat->Int->Option (Way (Bool) (Unit))
 |0,_=>none
 |ey+1,c=>
  cond (decide (c<(d.bn.length:Int))) (cY (α:=Unit) ((idx d.bn c).bind λ a=>
  (idx f.bn c).bind λ b=>
  cond ((!decide (a.Name=b.Name))||(!(a.Static==b.Static))) (some (.out false)) ((u' F a.cA b.cA).bind λ e=>
  cond (!e) (some (.out false)) (cond (((((!decide ((⟨a.Returns.Kind,a.Returns.ao⟩:Kind)=(⟨b.Returns.Kind,b.Returns.ao⟩:Kind)))||(!decide (a.hE=b.hE)))||(!decide (a.hC=b.hC)))||(!decide (a.Code=b.Code)))||(!decide ((a.cG.length:Int)=(b.cG.length:Int)))) (some (.out false)) (cY (α:=Unit) (Bt a b F 0) λ(_:Unit)=>
  some (.go ()))))) λ(_:Unit)=>
  Bs F d f ey (ax (c+1))) (some (.go ()))
def Br(F:Nat)(b8:List ao)(e:List ao):Nat->Int->Option (Way (Bool) (Unit))
 |0,_=>none
 |bP+1,c=>
  cond (decide (c<(b8.length:Int))) (cY (α:=Unit) ((idx b8 c).bind λ a=>
  (idx e c).bind λ b=>
  cond ((!decide (a.Name=b.Name))||(!decide (a.cX=b.cX))) (some (.out false)) ((Ey F a.Fields b.Fields).bind λ d=>
  cond ((!d)||(!decide ((a.bn.length:Int)=(b.bn.length:Int)))) (some (.out false)) (cY (α:=Unit) (Bs F a b F 0) λ(_:Unit)=>
  some (.go ())))) λ(_:Unit)=>
  Br F b8 e bP (ax (c+1))) (some (.go ()))
def Ex(F:Nat)(b8:List ao)(a:List ao):Option (Bool):=
 cond (!decide ((b8.length:Int)=(a.length:Int))) (some false) (ch (α:=Unit) (Br F b8 a F 0) λ(_:Unit)=>
 some true)
def x4(b8:aR)(d:aR):Nat->Int->Option (Way (Bool) (Unit))
 |0,_=>none
 |bP+1,a=>
  cond (decide (a<(b8.aZ.length:Int))) ((idx b8.aZ a).bind λ b=>
  (idx d.aZ a).bind λ c=>
  cond (!decide (b=c)) (some (.out false)) (x4 b8 d bP (ax (a+1)))) (some (.go ()))
def Bw(F:Nat)(b8:aR)(e:aR):Nat->Int->Option (Way (Bool) (Unit))
 |0,_=>none
 |ey+1,a=>
  cond (decide (a<(b8.Fields.length:Int))) ((idx b8.Fields a).bind λ b=>
  (idx e.Fields a).bind λ c=>
  (Ey F b c).bind λ d=>
  cond (!d) (some (.out false)) (Bw F b8 e ey (ax (a+1)))) (some (.go ()))
def By(b8:aR)(h:aR)(a:Int):Nat->Int->Option (Way (Bool) (Unit))
 |0,_=>none
 |lU+1,b=>
  (idx b8.Names a).bind λ c=>
  cond (decide (b<(c.length:Int))) ((idx b8.Names a).bind λ d=>
  (idx d b).bind λ e=>
  (idx h.Names a).bind λ f=>
  (idx f b).bind λ g=>
  cond (!decide (e=g)) (some (.out false)) (By b8 h a lU (ax (b+1)))) (some (.go ()))
def Bx(F:Nat)(b8:aR)(b:aR):Nat->Int->Option (Way (Bool) (Unit))
 |0,_=>none
 |ho+1,a=>
  cond (decide (a<(b8.Names.length:Int))) (cY (α:=Unit) ((idx b8.Names a).bind λ c=>
  (idx b.Names a).bind λ d=>
  cond (!decide ((c.length:Int)=(d.length:Int))) (some (.out false)) (cY (α:=Unit) (By b8 b a F 0) λ(_:Unit)=>
  some (.go ()))) λ(_:Unit)=>
  Bx F b8 b ho (ax (a+1))) (some (.go ()))
def BA(b8:aR)(h:aR)(a:Int):Nat->Int->Option (Way (Bool) (Unit))
 |0,_=>none
 |yW+1,b=>
  (idx b8.a1 a).bind λ c=>
  cond (decide (b<(c.length:Int))) ((idx b8.a1 a).bind λ d=>
  (idx d b).bind λ e=>
  (idx h.a1 a).bind λ f=>
  (idx f b).bind λ g=>
  cond (!decide (e=g)) (some (.out false)) (BA b8 h a yW (ax (b+1)))) (some (.go ()))
def Bz(F:Nat)(b8:aR)(b:aR):Nat->Int->Option (Way (Bool) (Unit))
 |0,_=>none
 |tP+1,a=>
  cond (decide (a<(b8.a1.length:Int))) (cY (α:=Unit) ((idx b8.a1 a).bind λ c=>
  (idx b.a1 a).bind λ d=>
  cond (!decide ((c.length:Int)=(d.length:Int))) (some (.out false)) (cY (α:=Unit) (BA b8 b a F 0) λ(_:Unit)=>
  some (.go ()))) λ(_:Unit)=>
  Bz F b8 b tP (ax (a+1))) (some (.go ()))
def Ez(F:Nat)(b8:aR)(a:aR):Option (Bool):=
 (Ex F b8.a8 a.a8).bind λ b=>
 cond (((((!b)||(!decide ((a.aZ.length:Int)=(b8.aZ.length:Int))))||(!decide ((b8.Fields.length:Int)=(a.Fields.length:Int))))||(!decide ((b8.Names.length:Int)=(a.Names.length:Int))))||(!decide ((b8.a1.length:Int)=(a.a1.length:Int)))) (some false) (ch (α:=Unit) (x4 b8 a F 0) λ(_:Unit)=>
 ch (α:=Unit) (Bw F b8 a F 0) λ(_:Unit)=>
 ch (α:=Unit) (Bx F b8 a F 0) λ(_:Unit)=>
 ch (α:=Unit) (Bz F b8 a F 0) λ(_:Unit)=>
 some true)
def Bi(b:List ao)(d:List UInt8):Nat->Int->Option (Way (Int) (Unit))
 |0,_=>none
 |bP+1,a=>
  cond (decide (a<(b.length:Int))) ((idx b a).bind λ c=>
  cond (decide (c.Name=d)) (some (.out a)) (Bi b d bP (ax (a+1)))) (some (.go ()))
def oS(F:Nat)(a:List ao)(b:List UInt8):Option (Int):=
 ch (α:=Unit) (Bi a b F 0) λ(_:Unit)=>
 some (-1)
def BE(F:Nat)(a:List ao):Nat->Int->(List Int)->Option (Way (List Int) (List Int))
 |0,_,_=>none
 |bP+1,b,c=>
  cond (decide (0<=b)) (cond (decide ((a.length:Int)<(c.length:Int))) (some (.out [])) ((bF 8 [b] c).bind λ d=>
  (idx a b).bind λ e=>
  (oS F a e.cX).bind λ f=>
  BE F a bP f d)) (some (.go c))
def x7(F:Nat)(b:List ao)(c:Int):Option (List Int):=
 ch (α:=List Int) (BE F b F c []) λ(a:List Int)=>
 some a
def x6(F:Nat)(a:List Kind)(c:List ao):Nat->Int->Option (Way (Bool) (Unit))
 |0,_=>none
 |bP+1,b=>
  cond (decide (b<(a.length:Int))) ((idx a b).bind λ d=>
  cond (!decide (d.ao=[])) ((idx a b).bind λ e=>
  (oS F c e.ao).bind λ f=>
  cond (decide (f<0)) (some (.out false)) (x6 F a c bP (ax (b+1)))) (x6 F a c bP (ax (b+1)))) (some (.go ()))
def BD(F:Nat)(a:List ao)(b:List Kind):Option (Bool):=
 ch (α:=Unit) (x6 F b a F 0) λ(_:Unit)=>
 some true
def sX(g:List ao)(b:List Int):Nat->(List Field)->Int->Option (List Field)
 |0,_,_=>none
 |bP+1,a,c=>
  cond (decide (c<(b.length:Int))) ((idx b c).bind λ d=>
  (idx g d).bind λ e=>
  (bF 40 a e.Fields).bind λ f=>
  sX g b bP f (ax (c+1))) (some a)
def A0(F:Nat)(b:List ao)(c:Int):Option (List Field):=
 (x7 F b c).bind λ d=>
 d_ (α:=List Field) (sX b d F [] 0) λ(a:List Field)=>
 some a
def q_(b:List (List UInt8))(d:Method):Nat->Int->Option (Int)
 |0,_=>none
 |ho+1,a=>
  cond (decide (a<(b.length:Int))) ((idx b a).bind λ c=>
  cond (!decide (c=d.Name)) (q_ b d ho (ax (a+1))) (some a)) (some a)
def BC(F:Nat)(f:List ao)(c:List Int)(d:Int):Nat->(List Target)->(List (List UInt8))->Int->Option ((List Target)×(List (List UInt8)))
 |0,_,_,_=>none
 |ey+1,g,a,e=>
  (idx c d).bind λ h=>
  (idx f h).bind λ i=>
  cond (decide (e<(i.bn.length:Int))) (d_ (α:=(List Target)×(List (List UInt8))) ((idx c d).bind λ j=>
  (idx f j).bind λ k=>
  (idx k.bn e).bind λ t=>
  d_ (α:=Int) (q_ a t F 0) λ(l:Int)=>
  d_ (α:=(List Target)×(List (List UInt8))) (cond (decide (l=(a.length:Int))) ((bF 16 a [t.Name]).bind λ m=>
  (bF 16 g [(⟨0,0⟩:Target)]).bind λ n=>
  some (n,m)) (some (g,a))) λ((b,o):(List Target)×(List (List UInt8)))=>
  (idx c d).bind λ p=>
  (idx b l).bind λ u=>
  (some (b.set (l).toNat (⟨p,e⟩:Target))).bind λ q=>
  some (q,o)) λ((r,s):(List Target)×(List (List UInt8)))=>
  BC F f c d ey r s (ax (e+1))) (some (g,a))
def BB(F:Nat)(i:List ao)(c:List Int):Nat->(List Target)->(List (List UInt8))->Int->Option ((List Target)×(List (List UInt8)))
 |0,_,_,_=>none
 |bP+1,a,b,d=>
  cond (decide (d<(c.length:Int))) (d_ (α:=(List Target)×(List (List UInt8))) (d_ (α:=(List Target)×(List (List UInt8))) (BC F i c d F a b 0) λ((e,f):(List Target)×(List (List UInt8)))=>
  some (e,f)) λ((g,h):(List Target)×(List (List UInt8)))=>
  BB F i c bP g h (ax (d+1))) (some (a,b))
def HK(F:Nat)(c:List ao)(d:Int):Option ((List (List UInt8))×(List Target)):=
 (x7 F c d).bind λ e=>
 d_ (α:=(List Target)×(List (List UInt8))) (BB F c e F [] [] 0) λ((a,b):(List Target)×(List (List UInt8)))=>
 some (b,a)
end I
namespace I
def u6(F:Nat)(a:List ao):Nat->Int->Option (Way (Int) (Unit))
 |0,_=>none
 |bP+1,b=>
  cond (decide (b<(a.length:Int))) ((idx a b).bind λ c=>
  (oS F a c.Name).bind λ d=>
  cond (!decide (d=b)) (some (.out 6)) (u6 F a bP (ax (b+1)))) (some (.go ()))
def A_(a:List ao):Nat->Int->Option (Way (Int) (Unit))
 |0,_=>none
 |ey+1,b=>
  cond (decide (b<(a.length:Int))) ((idx a b).bind λ c=>
  (idx a b).bind λ d=>
  cond (!((decide (c.Name=[79,98,106,101,99,116]))==(decide (d.cX=[])))) (some (.out 4)) (A_ a ey (ax (b+1)))) (some (.go ()))
def xZ(F:Nat)(a:List ao):Nat->Int->Option (Way (Int) (Unit))
 |0,_=>none
 |ho+1,b=>
  cond (decide (b<(a.length:Int))) ((idx a b).bind λ c=>
  cond (!decide (c.cX=[])) ((idx a b).bind λ d=>
  (oS F a d.cX).bind λ e=>
  cond (decide (e<0)) (some (.out 5)) (xZ F a ho (ax (b+1)))) (xZ F a ho (ax (b+1)))) (some (.go ()))
def A'(F:Nat)(a:List ao):Nat->Int->Option (Way (Int) (Unit))
 |0,_=>none
 |lU+1,b=>
  cond (decide (b<(a.length:Int))) ((x7 F a b).bind λ c=>
  cond (decide ((c.length:Int)=0)) (some (.out 4)) (A' F a lU (ax (b+1)))) (some (.go ()))
def Ba(F:Nat)(b:List ao)(c:Int):Nat->Int->Option (Way (Int) (Unit))
 |0,_=>none
 |yW+1,d=>
  (idx b c).bind λ e=>
  cond (decide (d<(e.Fields.length:Int))) ((idx b c).bind λ f=>
  (idx f.Fields d).bind λ a=>
  (BD F b [(⟨a.Kind.Kind,a.Kind.ao⟩:Kind)]).bind λ g=>
  cond (!g) (some (.out 5)) (Ba F b c yW (ax (d+1)))) (some (.go ()))
def Bc(F:Nat)(e:List ao)(a:Method):Nat->Int->Option (Way (Int) (Unit))
 |0,_=>none
 |WL+1,b=>
  cond (decide (b<(a.cG.length:Int))) ((idx a.cG b).bind λ c=>
  (oS F e c.ao).bind λ d=>
  cond (decide (d<0)) (some (.out 5)) (Bc F e a WL (ax (b+1)))) (some (.go ()))
def Bb(F:Nat)(a:List ao)(c:Int):Nat->Int->Option (Way (Int) (Unit))
 |0,_=>none
 |N3+1,d=>
  (idx a c).bind λ e=>
  cond (decide (d<(e.bn.length:Int))) (cY (α:=Unit) ((idx a c).bind λ f=>
  (idx f.bn d).bind λ b=>
  (BD F a b.cA).bind λ g=>
  cond (!g) (some (.out 5)) ((BD F a [(⟨b.Returns.Kind,b.Returns.ao⟩:Kind)]).bind λ h=>
  cond (!h) (some (.out 5)) (cY (α:=Unit) (Bc F a b F 0) λ(_:Unit)=>
  some (.go ())))) λ(_:Unit)=>
  Bb F a c N3 (ax (d+1))) (some (.go ()))
def x0(F:Nat)(a:List ao):Nat->Int->Option (Way (Int) (Unit))
 |0,_=>none
 |tP+1,b=>
  cond (decide (b<(a.length:Int))) (cY (α:=Unit) (cY (α:=Unit) (Ba F a b F 0) λ(_:Unit)=>
  cY (α:=Unit) (Bb F a b F 0) λ(_:Unit)=>
  some (.go ())) λ(_:Unit)=>
  x0 F a tP (ax (b+1))) (some (.go ()))
def A6(a:List Field)(C4:Int):Nat->Int->Option (Way (Int) (Unit))
 |0,_=>none
 |az2+1,b=>
  cond (decide (b<C4)) ((idx a b).bind λ c=>
  (idx a C4).bind λ d=>
  cond (decide (c.Name=d.Name)) (some (.out 6)) (A6 a C4 az2 (ax (b+1)))) (some (.go ()))
def A5(F:Nat)(a:List Field):Nat->Int->Option (Way (Int) (Unit))
 |0,_=>none
 |az1+1,C4=>
  cond (decide (C4<(a.length:Int))) (cY (α:=Unit) (cY (α:=Unit) (A6 a C4 F 0) λ(_:Unit)=>
  some (.go ())) λ(_:Unit)=>
  A5 F a az1 (ax (C4+1))) (some (.go ()))
def s0(a:ao)(b:Int):Nat->Int->Option (Way (Int) (Unit))
 |0,_=>none
 |az4+1,c=>
  cond (decide (c<b)) ((idx a.bn c).bind λ d=>
  (idx a.bn b).bind λ e=>
  cond (decide (d.Name=e.Name)) (some (.out 6)) (s0 a b az4 (ax (c+1)))) (some (.go ()))
def sZ(F:Nat)(a:ao):Nat->Int->Option (Way (Int) (Unit))
 |0,_=>none
 |az3+1,b=>
  cond (decide (b<(a.bn.length:Int))) (cY (α:=Unit) (cY (α:=Unit) (s0 a b F 0) λ(_:Unit)=>
  some (.go ())) λ(_:Unit)=>
  sZ F a az3 (ax (b+1))) (some (.go ()))
def Bd(F:Nat)(a:List ao):Nat->Int->Option (Way (Int) (Unit))
 |0,_=>none
 |N4+1,b=>
  cond (decide (b<(a.length:Int))) (cY (α:=Unit) ((A0 F a b).bind λ c=>
  cY (α:=Unit) (A5 F c F 0) λ(_:Unit)=>
  (idx a b).bind λ d=>
  cY (α:=Unit) (sZ F d F 0) λ(_:Unit)=>
  some (.go ())) λ(_:Unit)=>
  Bd F a N4 (ax (b+1))) (some (.go ()))
def xY(F:Nat)(a:List ao)(f:Int)(c:List Int)(d:Int)(C8:Int):Nat->Int->Option (Way (Int) (Unit))
 |0,_=>none
 |ahm+1,e=>
  (idx c d).bind λ g=>
  (idx a g).bind λ h=>
  cond (decide (e<(h.bn.length:Int))) ((idx a f).bind λ i=>
  (idx i.bn C8).bind λ Lr=>
  (idx c d).bind λ j=>
  (idx a j).bind λ k=>
  (idx k.bn e).bind λ b=>
  cond (decide (Lr.Name=b.Name)) (cond (Lr.Static||b.Static) (some (.out 4)) ((u' F Lr.cA b.cA).bind λ l=>
  cond (!l) (some (.out 4)) (cond (!decide ((⟨Lr.Returns.Kind,Lr.Returns.ao⟩:Kind)=(⟨b.Returns.Kind,b.Returns.ao⟩:Kind))) (some (.out 4)) (xY F a f c d C8 ahm (ax (e+1)))))) (xY F a f c d C8 ahm (ax (e+1)))) (some (.go ()))
def A9(F:Nat)(a:List ao)(b:Int)(d:List Int)(e:Int):Nat->Int->Option (Way (Int) (Unit))
 |0,_=>none
 |az7+1,C8=>
  (idx a b).bind λ c=>
  cond (decide (C8<(c.bn.length:Int))) (cY (α:=Unit) (cY (α:=Unit) (xY F a b d e C8 F 0) λ(_:Unit)=>
  some (.go ())) λ(_:Unit)=>
  A9 F a b d e az7 (ax (C8+1))) (some (.go ()))
def A8(F:Nat)(c:List ao)(d:Int)(a:List Int):Nat->Int->Option (Way (Int) (Unit))
 |0,_=>none
 |az6+1,b=>
  cond (decide (b<(ax ((a.length:Int)-1)))) (cY (α:=Unit) (cY (α:=Unit) (A9 F c d a b F 0) λ(_:Unit)=>
  some (.go ())) λ(_:Unit)=>
  A8 F c d a az6 (ax (b+1))) (some (.go ()))
def A7(F:Nat)(a:List ao):Nat->Int->Option (Way (Int) (Unit))
 |0,_=>none
 |az5+1,b=>
  cond (decide (b<(a.length:Int))) (cY (α:=Unit) ((x7 F a b).bind λ c=>
  cY (α:=Unit) (A8 F a b c F 0) λ(_:Unit)=>
  some (.go ())) λ(_:Unit)=>
  A7 F a az5 (ax (b+1))) (some (.go ()))
def HG(F:Nat)(a:List ao):Option (Int):=
 (HF F a).bind λ h=>
 cond (!decide (h=0)) (some h) (ch (α:=Unit) (u6 F a F 0) λ(_:Unit)=>
 (oS F a [79,98,106,101,99,116]).bind λ d=>
 cond (decide (d<0)) (some 5) ((oS F a [69,114,114,111,114]).bind λ e=>
 cond (decide (e<0)) (some 5) (ch (α:=Unit) (A_ a F 0) λ(_:Unit)=>
 ch (α:=Unit) (xZ F a F 0) λ(_:Unit)=>
 ch (α:=Unit) (A' F a F 0) λ(_:Unit)=>
 (oS F a [69,114,114,111,114]).bind λ b=>
 (A0 F a b).bind λ c=>
 (idx a b).bind λ f=>
 cond ((!decide (f.cX=[79,98,106,101,99,116]))||(decide ((c.length:Int)=0))) (some 4) ((idx c 0).bind λ g=>
 cond (!decide (g.Kind.Kind=1)) (some 4) (ch (α:=Unit) (x0 F a F 0) λ(_:Unit)=>
 ch (α:=Unit) (Bd F a F 0) λ(_:Unit)=>
 ch (α:=Unit) (A7 F a F 0) λ(_:Unit)=>
 some 0)))))
def q9(F:Nat)(a:List ao):Nat->(List (List Target))->(List (List (List UInt8)))->(List (List Field))->(List Int)->Int->Option (Way (aR×Int) ((List (List Target))×(List (List (List UInt8)))×(List (List Field))×(List Int)))
 |0,_,_,_,_,_=>none
 |bP+1,k,l,m,n,b=>
  cond (decide (b<(a.length:Int))) ((A0 F a b).bind λ c=>
  (HK F a b).bind λ d=>
  cond ((decide (12<(c.length:Int)))||(decide (16<(d.1.length:Int)))) (some (.out ((⟨[],[],[],[],[]⟩:aR),2))) ((idx a b).bind λ e=>
  (oS F a e.cX).bind λ f=>
  (bF 8 n [f]).bind λ g=>
  (bF 24 m [c]).bind λ h=>
  (bF 24 l [d.1]).bind λ i=>
  (bF 24 k [d.2]).bind λ j=>
  q9 F a bP j i h g (ax (b+1)))) (some (.go (k,l,m,n)))
def HI(F:Nat)(a:List ao):Option (aR×Int):=
 (HG F a).bind λ f=>
 cond (!decide (f=0)) (some ((⟨[],[],[],[],[]⟩:aR),f)) (ch (α:=(List (List Target))×(List (List (List UInt8)))×(List (List Field))×(List Int)) (q9 F a F [] [] [] [] 0) λ((b,c,d,e):(List (List Target))×(List (List (List UInt8)))×(List (List Field))×(List Int))=>
 some ((⟨a,e,d,c,b⟩:aR),0))
end I
namespace I
def pg(a:bs):Nat->(List ((List UInt8)×Int))->Int->Option (Way (Int×bs) (List ((List UInt8)×Int)))
 |0,_,_=>none
 |bP+1,c,d=>
  cond (decide (d<(a.l.length:Int))) ((idx a.l d).bind λ b=>
  cond ((cJ c b.Name).isSome) (some (.out (6,(⟨a.l,c,a.du⟩:bs)))) (pg a bP (gA c b.Name d) (ax (d+1)))) (some (.go c))
def FO(F:Nat)(a:bs):Option (Int×bs):=
 ch (α:=List ((List UInt8)×Int)) (pg a F a.bZ 0) λ(b:List ((List UInt8)×Int))=>
 cond ((!((cJ b [79,98,106,101,99,116]).isSome))||(!((cJ b [69,114,114,111,114]).isSome))) (some (5,(⟨a.l,b,a.du⟩:bs))) (some (0,(⟨a.l,b,a.du⟩:bs)))
def wI(a:bs):Nat->Int->Option (Way (Int×bs) (Unit))
 |0,_=>none
 |bP+1,c=>
  cond (decide (c<(a.l.length:Int))) ((idx a.l c).bind λ b=>
  cond (!((decide (b.Name=[79,98,106,101,99,116]))==(decide (b.cX=[])))) (some (.out (4,(⟨a.l,a.bZ,a.du⟩:bs)))) (wI a bP (ax (c+1)))) (some (.go ()))
def mQ(a:bs):Nat->(List Int)->Int->Option (Way (Int×bs) (List Int))
 |0,_,_=>none
 |ey+1,c,d=>
  cond (decide (d<(a.l.length:Int))) (cY (α:=List Int) ((idx a.l d).bind λ b=>
  cY (α:=Int) (cY (α:=Int) (cond (decide (b.cX=[])) (some (.go (-1))) (cond (!((cJ a.bZ b.cX).isSome)) (some (.out (5,(⟨a.l,a.bZ,c⟩:bs)))) (some (.go ((cJ a.bZ b.cX).getD 0))))) λ(e:Int)=>
  some (.go e)) λ(f:Int)=>
  (bF 8 c [f]).bind λ g=>
  some (.go g)) λ(h:List Int)=>
  mQ a ey h (ax (d+1))) (some (.go c))
def tV(b:bs)(c:List Int):Nat->Int->Int->Option (Int)
 |0,_,_=>none
 |lU+1,wR,wS=>
  cond (decide (wS<(b.l.length:Int))) ((idx c wR).bind λ a=>
  cond (decide (a<0)) (some a) (tV b c lU a (ax (wS+1)))) (some wR)
def r0(F:Nat)(a:bs)(b:List Int):Nat->Int->Option (Way (Int×bs) (Unit))
 |0,_=>none
 |ho+1,c=>
  cond (decide (c<(a.l.length:Int))) (cY (α:=Unit) (d_ (α:=Int) (d_ (α:=Int) (tV a b F c 0) λ(d:Int)=>
  some d) λ(e:Int)=>
  cond (decide (0<=e)) (some (.out (4,(⟨a.l,a.bZ,b⟩:bs)))) (some (.go ()))) λ(_:Unit)=>
  r0 F a b ho (ax (c+1))) (some (.go ()))
def On(F:Nat)(a:bs):Option (Int×bs):=
 ch (α:=Unit) (wI a F 0) λ(_:Unit)=>
 ch (α:=List Int) (mQ a F a.du 0) λ(b:List Int)=>
 ch (α:=Unit) (r0 F a b F 0) λ(_:Unit)=>
 some (0,(⟨a.l,a.bZ,b⟩:bs))
def r2(b:bs):Nat->(List Int)->Int->Option (List Int)
 |0,_,_=>none
 |bP+1,c,a=>
  cond (decide (0<=a)) ((bF 8 c [a]).bind λ d=>
  (idx b.du a).bind λ e=>
  r2 b bP d e) (some c)
def r1(F:Nat)(a:bs)(b:Int):Option (List Int):=
 d_ (α:=List Int) (r2 a F [] b) λ(c:List Int)=>
 some c
def Ky(_:List Int):Option Unit:=some ()
def y2(b:bs):List Int->(List Field)->Option (List Field)
 |[],a=>some a
 |Aj::c,a=>
  (idx b.l Aj).bind λ d=>
  (bF 40 a d.Fields).bind λ e=>
  y2 b c e
def tW(F:Nat)(a:bs)(c:Int):Option (List Field):=
 (r1 F (⟨a.l,a.bZ,a.du⟩:bs) c).bind λ b=>
 (Ky b).bind λ e=>
 d_ (α:=List Field) (y2 a b.reverse []) λ(d:List Field)=>
 some d
def Oo(F:Nat)(a:bs):Option (Int):=
 (tW F (⟨a.l,a.bZ,a.du⟩:bs) ((cJ a.bZ [69,114,114,111,114]).getD 0)).bind λ d=>
 (idx a.l ((cJ a.bZ [69,114,114,111,114]).getD 0)).bind λ b=>
 cond ((!decide (b.cX=[79,98,106,101,99,116]))||(decide ((d.length:Int)=0))) (some 4) ((idx d 0).bind λ c=>
 cond (!decide (c.Kind.Kind=1)) (some 4) (some 0))
def CW(b:Kind)(c:List (List UInt8)):Option (List (List UInt8)):=
 cond (!decide (b.ao=[])) ((bF 16 c [b.ao]).bind λ a=>
 some a) (some c)
def wL(b:ao):Nat->(List (List UInt8))->Int->Option (List (List UInt8))
 |0,_,_=>none
 |ey+1,e,c=>
  cond (decide (c<(b.Fields.length:Int))) ((idx b.Fields c).bind λ a=>
  (CW (⟨a.Kind.Kind,a.Kind.ao⟩:Kind) e).bind λ d=>
  wL b ey d (ax (c+1))) (some e)
def wM(gp:Method):Nat->(List (List UInt8))->Int->Option (List (List UInt8))
 |0,_,_=>none
 |lU+1,d,b=>
  cond (decide (b<(gp.cA.length:Int))) ((idx gp.cA b).bind λ a=>
  (CW (⟨a.Kind,a.ao⟩:Kind) d).bind λ c=>
  wM gp lU c (ax (b+1))) (some d)
def r6(gp:Method):Nat->(List (List UInt8))->Int->Option (List (List UInt8))
 |0,_,_=>none
 |tP+1,d,a=>
  cond (decide (a<(gp.cG.length:Int))) ((idx gp.cG a).bind λ b=>
  (bF 16 d [b.ao]).bind λ c=>
  r6 gp tP c (ax (a+1))) (some d)
def r5(F:Nat)(a:ao):Nat->(List (List UInt8))->Int->Option (List (List UInt8))
 |0,_,_=>none
 |ho+1,g,b=>
  cond (decide (b<(a.bn.length:Int))) (d_ (α:=List (List UInt8)) ((idx a.bn b).bind λ gp=>
  d_ (α:=List (List UInt8)) (wM gp F g 0) λ(c:List (List UInt8))=>
  (CW (⟨gp.Returns.Kind,gp.Returns.ao⟩:Kind) c).bind λ d=>
  d_ (α:=List (List UInt8)) (r6 gp F d 0) λ(e:List (List UInt8))=>
  some e) λ(f:List (List UInt8))=>
  r5 F a ho f (ax (b+1))) (some g)
def wK(F:Nat)(a:bs):Nat->(List (List UInt8))->Int->Option (List (List UInt8))
 |0,_,_=>none
 |bP+1,f,b=>
  cond (decide (b<(a.l.length:Int))) (d_ (α:=List (List UInt8)) ((idx a.l b).bind λ g=>
  d_ (α:=List (List UInt8)) (wL g F f 0) λ(c:List (List UInt8))=>
  d_ (α:=List (List UInt8)) (r5 F g F c 0) λ(d:List (List UInt8))=>
  some d) λ(e:List (List UInt8))=>
  wK F a bP e (ax (b+1))) (some f)
def y9(d:bs)(a:List (List UInt8)):Nat->Int->Option (Way (Int) (Unit))
 |0,_=>none
 |yW+1,b=>
  cond (decide (b<(a.length:Int))) ((idx a b).bind λ c=>
  cond (!((cJ d.bZ c).isSome)) (some (.out 5)) (y9 d a yW (ax (b+1)))) (some (.go ()))
def JE(F:Nat)(a:bs):Option (Int):=
 d_ (α:=List (List UInt8)) (wK F a F [] 0) λ(b:List (List UInt8))=>
 ch (α:=Unit) (y9 a b F 0) λ(_:Unit)=>
 some 0
def y_(a:List (List UInt8)):Nat->(List ((List UInt8)×Bool))->Int->Option (List ((List UInt8)×Bool))
 |0,_,_=>none
 |bP+1,d,b=>
  cond (decide (b<(a.length:Int))) ((idx a b).bind λ c=>
  y_ a bP (gA d c true) (ax (b+1))) (some d)
def FQ(F:Nat)(b:List (List UInt8)):Option (Bool):=
 d_ (α:=List ((List UInt8)×Bool)) (y_ b F [] 0) λ(a:List ((List UInt8)×Bool))=>
 some (decide ((a.length:Int)<(b.length:Int)))
def wJ(a:List Field):Nat->(List (List UInt8))->Int->Option (List (List UInt8))
 |0,_,_=>none
 |ey+1,e,b=>
  cond (decide (b<(a.length:Int))) ((idx a b).bind λ c=>
  (bF 16 e [c.Name]).bind λ d=>
  wJ a ey d (ax (b+1))) (some e)
def r4(a:ao):Nat->(List (List UInt8))->Int->Option (List (List UInt8))
 |0,_,_=>none
 |ho+1,e,b=>
  cond (decide (b<(a.bn.length:Int))) ((idx a.bn b).bind λ c=>
  (bF 16 e [c.Name]).bind λ d=>
  r4 a ho d (ax (b+1))) (some e)
def y6(F:Nat)(a:bs):Nat->Int->Option (Way (Int) (Unit))
 |0,_=>none
 |bP+1,b=>
  cond (decide (b<(a.l.length:Int))) (cY (α:=Unit) ((idx a.l b).bind λ g=>
  (tW F (⟨a.l,a.bZ,a.du⟩:bs) b).bind λ h=>
  d_ (α:=List (List UInt8)) (wJ h F [] 0) λ(c:List (List UInt8))=>
  d_ (α:=List (List UInt8)) (r4 g F [] 0) λ(d:List (List UInt8))=>
  (FQ F c).bind λ e=>
  cond (e) (some (.out 6)) ((FQ F d).bind λ f=>
  cond (f) (some (.out 6)) (some (.go ())))) λ(_:Unit)=>
  y6 F a bP (ax (b+1))) (some (.go ()))
def JD(F:Nat)(a:bs):Option (Int):=
 ch (α:=Unit) (y6 F a F 0) λ(_:Unit)=>
 some 0
def Dn(b:List Kind)(c:List Kind):Nat->Int->Option (Way (Bool) (Unit))
 |0,_=>none
 |bP+1,a=>
  cond (decide (a<(b.length:Int))) ((idx b a).bind λ d=>
  (idx c a).bind λ e=>
  cond (!decide (d=e)) (some (.out false)) (Dn b c bP (ax (a+1)))) (some (.go ()))
def KE(F:Nat)(a:List Kind)(b:List Kind):Option (Bool):=
 cond (!decide ((a.length:Int)=(b.length:Int))) (some false) (ch (α:=Unit) (Dn a b F 0) λ(_:Unit)=>
 some true)
def Om(F:Nat)(b8:Method)(a:Method):Option (Bool):=
 cond ((!b8.Static)&&(!a.Static)) ((KE F b8.cA a.cA).bind λ b=>
 cond (b) (some (decide ((⟨b8.Returns.Kind,b8.Returns.ao⟩:Kind)=(⟨a.Returns.Kind,a.Returns.ao⟩:Kind)))) (some false)) (some false)
def r3(F:Nat)(a:Method)(c:ao):Nat->Int->Option (Way (Int) (Unit))
 |0,_=>none
 |lU+1,d=>
  cond (decide (d<(c.bn.length:Int))) ((idx c.bn d).bind λ b=>
  cond (decide (a.Name=b.Name)) ((Om F (⟨a.Name,a.Static,a.cA,(⟨a.Returns.Kind,a.Returns.ao⟩:Kind),a.hE,a.hC,a.Code,a.cG⟩:Method) (⟨b.Name,b.Static,b.cA,(⟨b.Returns.Kind,b.Returns.ao⟩:Kind),b.hE,b.hC,b.Code,b.cG⟩:Method)).bind λ e=>
  cond (!e) (some (.out 4)) (r3 F a c lU (ax (d+1)))) (r3 F a c lU (ax (d+1)))) (some (.go ()))
def y5(F:Nat)(c:bs)(a:ao)(d:Int):Nat->Int->Option (Way (Int) (Unit))
 |0,_=>none
 |ho+1,b=>
  cond (decide (b<(a.bn.length:Int))) (cY (α:=Unit) ((idx a.bn b).bind λ e=>
  (idx c.l d).bind λ f=>
  cY (α:=Unit) (r3 F e f F 0) λ(_:Unit)=>
  some (.go ())) λ(_:Unit)=>
  y5 F c a d ho (ax (b+1))) (some (.go ()))
def y4(F:Nat)(c:bs)(d:ao)(a:List Int):Nat->Int->Option (Way (Int) (Unit))
 |0,_=>none
 |ey+1,b=>
  cond (decide (b<(a.length:Int))) (cY (α:=Unit) ((idx a b).bind λ e=>
  cY (α:=Unit) (y5 F c d e F 0) λ(_:Unit)=>
  some (.go ())) λ(_:Unit)=>
  y4 F c d a ey (ax (b+1))) (some (.go ()))
def y3(F:Nat)(a:bs):Nat->Int->Option (Way (Int) (Unit))
 |0,_=>none
 |bP+1,b=>
  cond (decide (b<(a.l.length:Int))) (cY (α:=Unit) ((idx a.l b).bind λ d=>
  (r1 F (⟨a.l,a.bZ,a.du⟩:bs) b).bind λ c=>
  (cut c 1 (c.length:Int)).bind λ e=>
  cY (α:=Unit) (y4 F a d e F 0) λ(_:Unit)=>
  some (.go ())) λ(_:Unit)=>
  y3 F a bP (ax (b+1))) (some (.go ()))
def JC(F:Nat)(a:bs):Option (Int):=
 ch (α:=Unit) (y3 F a F 0) λ(_:Unit)=>
 some 0
end I
namespace I
def ZY(s_:List Field):Option (List Field):=
 (bF 40 ([]:List Field) s_).bind λ a=>
 some a
def Z1(s_:List Method):Option (List Method):=
 (bF 128 ([]:List Method) s_).bind λ a=>
 some a
def Z0(s_:List Kind):Option (List Kind):=
 (bF 24 ([]:List Kind) s_).bind λ a=>
 some a
def ZZ(s_:List Handler):Option (List Handler):=
 (bF 40 ([]:List Handler) s_).bind λ a=>
 some a
def tX:Nat->(List Method)->Int->Int->Option (List Method)
 |0,_,_,_=>none
 |ey+1,f,c,C6=>
  cond (decide (C6<c)) ((idx f C6).bind λ d=>
  (Z0 d.cA).bind λ g=>
  (ZZ d.cG).bind λ h=>
  (idx f C6).bind λ a=>
  (some (f.set (C6).toNat (⟨a.Name,a.Static,g,(⟨a.Returns.Kind,a.Returns.ao⟩:Kind),a.hE,a.hC,a.Code,a.cG⟩:Method))).bind λ e=>
  (idx e C6).bind λ b=>
  (some (e.set (C6).toNat (⟨b.Name,b.Static,b.cA,(⟨b.Returns.Kind,b.Returns.ao⟩:Kind),b.hE,b.hC,b.Code,h⟩:Method))).bind λ i=>
  tX ey i c (ax (C6+1))) (some f)
def r7(F:Nat)(c:List ao):Nat->(List ao)->Int->Option (List ao)
 |0,_,_=>none
 |bP+1,i,d=>
  cond (decide (d<(c.length:Int))) (d_ (α:=List ao) ((idx c d).bind λ b=>
  (ZY b.Fields).bind λ e=>
  (Z1 b.bn).bind λ a=>
  d_ (α:=List Method) (tX F a (a.length:Int) 0) λ(f:List Method)=>
  (bF 80 i [(⟨b.Name,b.cX,e,f⟩:ao)]).bind λ g=>
  some g) λ(h:List ao)=>
  r7 F c bP h (ax (d+1))) (some i)
def JF(F:Nat)(b:List ao):Option (List ao):=
 d_ (α:=List ao) (r7 F b F [] 0) λ(a:List ao)=>
 some a
def zY(s_:List (List UInt8))(b:List UInt8):Nat->Int->Option (Way (Int) (Unit))
 |0,_=>none
 |bP+1,a=>
  cond (decide (a<(s_.length:Int))) ((idx s_ a).bind λ c=>
  cond (decide (b=c)) (some (.out a)) (zY s_ b bP (ax (a+1)))) (some (.go ()))
def KI(F:Nat)(s_:List (List UInt8))(a:List UInt8):Option (Int):=
 ch (α:=Unit) (zY s_ a F 0) λ(_:Unit)=>
 some (-1)
def y8(F:Nat)(d:Int)(e:ao):Nat->(List (List UInt8))->(List Target)->Int->Option ((List (List UInt8))×(List Target))
 |0,_,_,_=>none
 |ey+1,b,c,a=>
  cond (decide (a<(e.bn.length:Int))) (d_ (α:=(List (List UInt8))×(List Target)) ((idx e.bn a).bind λ g=>
  (KI F b g.Name).bind λ f=>
  cond (decide (0<=f)) ((idx c f).bind λ h=>
  (some (c.set (f).toNat (⟨d,a⟩:Target))).bind λ i=>
  some (b,i)) ((bF 16 b [g.Name]).bind λ j=>
  (bF 16 c [(⟨d,a⟩:Target)]).bind λ k=>
  some (j,k))) λ((wD,wE):(List (List UInt8))×(List Target))=>
  y8 F d e ey wD wE (ax (a+1))) (some (b,c))
def y7(F:Nat)(b:bs):List Int->(List (List UInt8))->(List Target)->Option ((List (List UInt8))×(List Target))
 |[],a,lk=>some (a,lk)
 |eT::c,a,lk=>
  d_ (α:=(List (List UInt8))×(List Target)) ((idx b.l eT).bind λ d=>
  d_ (α:=(List (List UInt8))×(List Target)) (y8 F eT d F a lk 0) λ((e,f):(List (List UInt8))×(List Target))=>
  some (e,f)) λ((g,h):(List (List UInt8))×(List Target))=>
  y7 F b c g h
def CV(F:Nat)(a:bs)(c:Int):Option ((List (List UInt8))×(List Target)):=
 (r1 F (⟨a.l,a.bZ,a.du⟩:bs) c).bind λ b=>
 (Ky b).bind λ e=>
 d_ (α:=(List (List UInt8))×(List Target)) (y7 F a b.reverse [] []) λ((d,lk):(List (List UInt8))×(List Target))=>
 some (d,lk)
def oa(F:Nat)(c:List ao)(d:Int×bs)(e:Int×bs):Nat->(List (List Target))->(List (List (List UInt8)))->(List (List Field))->Int->Option (Way (aR×Int) ((List (List Target))×(List (List (List UInt8)))×(List (List Field))))
 |0,_,_,_,_=>none
 |bP+1,wl,wm,wo,a=>
  cond (decide (a<(c.length:Int))) ((CV F (⟨c,d.2.bZ,e.2.du⟩:bs) a).bind λ f=>
  (tW F (⟨c,d.2.bZ,e.2.du⟩:bs) a).bind λ g=>
  (bF 24 wo [g]).bind λ b=>
  (bF 24 wm [f.1]).bind λ h=>
  (bF 24 wl [f.2]).bind λ i=>
  (idx b a).bind λ j=>
  cond ((decide (12<(j.length:Int)))||(decide (16<(f.1.length:Int)))) (some (.out ((⟨[],[],[],[],[]⟩:aR),2))) (oa F c d e bP i h b (ax (a+1)))) (some (.go (wl,wm,wo)))
def CU(F:Nat)(e:List ao):Option (aR×Int):=
 (Jo F e).bind λ f=>
 cond (!decide (f=0)) (some ((⟨[],[],[],[],[]⟩:aR),f)) ((JF F e).bind λ a=>
 (FO F (⟨a,[],[]⟩:bs)).bind λ b=>
 cond (!decide (b.1=0)) (some ((⟨[],[],[],[],[]⟩:aR),b.1)) ((On F (⟨a,b.2.bZ,[]⟩:bs)).bind λ c=>
 cond (!decide (c.1=0)) (some ((⟨[],[],[],[],[]⟩:aR),c.1)) ((Oo F (⟨a,b.2.bZ,c.2.du⟩:bs)).bind λ g=>
 cond (!decide (g=0)) (some ((⟨[],[],[],[],[]⟩:aR),g)) ((JE F (⟨a,b.2.bZ,c.2.du⟩:bs)).bind λ h=>
 cond (!decide (h=0)) (some ((⟨[],[],[],[],[]⟩:aR),h)) ((JD F (⟨a,b.2.bZ,c.2.du⟩:bs)).bind λ i=>
 cond (!decide (i=0)) (some ((⟨[],[],[],[],[]⟩:aR),i)) ((JC F (⟨a,b.2.bZ,c.2.du⟩:bs)).bind λ d=>
 cond (!decide (d=0)) (some ((⟨[],[],[],[],[]⟩:aR),d)) (ch (α:=(List (List Target))×(List (List (List UInt8)))×(List (List Field))) (oa F a b c F [] [] [] 0) λ((j,k,l):(List (List Target))×(List (List (List UInt8)))×(List (List Field)))=>
 some ((⟨a,c.2.du,l,k,j⟩:aR),0))))))))
def zT(b:List Int)(c:List Int):Nat->Int->Option (Way (Bool) (Unit))
 |0,_=>none
 |bP+1,a=>
  cond (decide (a<(b.length:Int))) ((idx b a).bind λ d=>
  (idx c a).bind λ e=>
  cond (!decide (d=e)) (some (.out false)) (zT b c bP (ax (a+1)))) (some (.go ()))
def KG(F:Nat)(a:List Int)(b:List Int):Option (Bool):=
 cond (!decide ((a.length:Int)=(b.length:Int))) (some false) (ch (α:=Unit) (zT a b F 0) λ(_:Unit)=>
 some true)
def zR(b:List Field)(c:List Field):Nat->Int->Option (Way (Bool) (Unit))
 |0,_=>none
 |bP+1,a=>
  cond (decide (a<(b.length:Int))) ((idx b a).bind λ d=>
  (idx c a).bind λ e=>
  cond (!decide (d=e)) (some (.out false)) (zR b c bP (ax (a+1)))) (some (.go ()))
def KD(F:Nat)(a:List Field)(b:List Field):Option (Bool):=
 cond (!decide ((a.length:Int)=(b.length:Int))) (some false) (ch (α:=Unit) (zR a b F 0) λ(_:Unit)=>
 some true)
def zO(F:Nat)(a:List (List Field))(b:List (List Field)):Nat->Int->Option (Way (Bool) (Unit))
 |0,_=>none
 |bP+1,gB=>
  cond (decide (gB<(a.length:Int))) ((idx a gB).bind λ c=>
  (idx b gB).bind λ d=>
  (KD F c d).bind λ e=>
  cond (!e) (some (.out false)) (zO F a b bP (ax (gB+1)))) (some (.go ()))
def KA(F:Nat)(a:List (List Field))(b:List (List Field)):Option (Bool):=
 cond (!decide ((a.length:Int)=(b.length:Int))) (some false) (ch (α:=Unit) (zO F a b F 0) λ(_:Unit)=>
 some true)
def zU(b:List (List UInt8))(c:List (List UInt8)):Nat->Int->Option (Way (Bool) (Unit))
 |0,_=>none
 |bP+1,a=>
  cond (decide (a<(b.length:Int))) ((idx b a).bind λ d=>
  (idx c a).bind λ e=>
  cond (!decide (d=e)) (some (.out false)) (zU b c bP (ax (a+1)))) (some (.go ()))
def KH(F:Nat)(a:List (List UInt8))(b:List (List UInt8)):Option (Bool):=
 cond (!decide ((a.length:Int)=(b.length:Int))) (some false) (ch (α:=Unit) (zU a b F 0) λ(_:Unit)=>
 some true)
def zQ(F:Nat)(a:List (List (List UInt8)))(b:List (List (List UInt8))):Nat->Int->Option (Way (Bool) (Unit))
 |0,_=>none
 |bP+1,gB=>
  cond (decide (gB<(a.length:Int))) ((idx a gB).bind λ c=>
  (idx b gB).bind λ d=>
  (KH F c d).bind λ e=>
  cond (!e) (some (.out false)) (zQ F a b bP (ax (gB+1)))) (some (.go ()))
def KC(F:Nat)(a:List (List (List UInt8)))(b:List (List (List UInt8))):Option (Bool):=
 cond (!decide ((a.length:Int)=(b.length:Int))) (some false) (ch (α:=Unit) (zQ F a b F 0) λ(_:Unit)=>
 some true)
def zS(b:List Target)(c:List Target):Nat->Int->Option (Way (Bool) (Unit))
 |0,_=>none
 |bP+1,a=>
  cond (decide (a<(b.length:Int))) ((idx b a).bind λ d=>
  (idx c a).bind λ e=>
  cond (!decide (d=e)) (some (.out false)) (zS b c bP (ax (a+1)))) (some (.go ()))
def KF(F:Nat)(a:List Target)(b:List Target):Option (Bool):=
 cond (!decide ((a.length:Int)=(b.length:Int))) (some false) (ch (α:=Unit) (zS a b F 0) λ(_:Unit)=>
 some true)
def zP(F:Nat)(a:List (List Target))(b:List (List Target)):Nat->Int->Option (Way (Bool) (Unit))
 |0,_=>none
 |bP+1,gB=>
  cond (decide (gB<(a.length:Int))) ((idx a gB).bind λ c=>
  (idx b gB).bind λ d=>
  (KF F c d).bind λ e=>
  cond (!e) (some (.out false)) (zP F a b bP (ax (gB+1)))) (some (.go ()))
def KB(F:Nat)(a:List (List Target))(b:List (List Target)):Option (Bool):=
 cond (!decide ((a.length:Int)=(b.length:Int))) (some false) (ch (α:=Unit) (zP F a b F 0) λ(_:Unit)=>
 some true)
def FP(F:Nat)(b8:aR)(a:aR):Option (Bool):=
 (KG F b8.aZ a.aZ).bind λ b=>
 cond (b) ((KA F b8.Fields a.Fields).bind λ c=>
 cond (c) ((KC F b8.Names a.Names).bind λ d=>
 cond (d) ((KB F b8.a1 a.a1).bind λ e=>
 some e) (some false)) (some false)) (some false)
def n'(F:Nat)(a:aR):Option (Int):=
 (CU F a.a8).bind λ b=>
 cond (!decide (b.2=0)) (some 4) ((FP F (⟨a.a8,a.aZ,a.Fields,a.Names,a.a1⟩:aR) (⟨b.1.a8,b.1.aZ,b.1.Fields,b.1.Names,b.1.a1⟩:aR)).bind λ c=>
 cond (!c) (some 4) (some 0))
def acH:Option (List ao):=
 some [(⟨[79,98,106,101,99,116],[],[],[(⟨[109,97,105,110],true,[],(⟨0,[]⟩:Kind),2,0,[1,0,7,31,27],[]⟩:Method)]⟩:ao),(⟨[69,114,114,111,114],[79,98,106,101,99,116],[(⟨[99,111,100,101],(⟨1,[]⟩:Kind)⟩:Field)],[]⟩:ao)]
end I
namespace I
def s3(F:Nat)(a:aR):Option (Int):=
 (HI F a.a8).bind λ b=>
 cond (!decide (b.2=0)) (some 4) ((Ez F (⟨a.a8,a.aZ,a.Fields,a.Names,a.a1⟩:aR) (⟨b.1.a8,b.1.aZ,b.1.Fields,b.1.Names,b.1.a1⟩:aR)).bind λ c=>
 cond (!c) (some 4) (some 0))
end I
namespace I
def o6(a:Int)(b:Int)(c:Int):Option (Bool):=
 some ((decide (b<=a))&&(decide (a<=c)))
def agu(a:Int)(b:Int):Option (aU×Int):=
 (o6 a 3 2000).bind λ d=>
 cond (!d) (some ((⟨[],0,0,0,0,[],0⟩:aU),3)) ((o6 b 3 2000).bind λ e=>
 cond (!e) (some ((⟨[],0,0,0,0,[],0⟩:aU),3)) ((za (0 :Int) 8 (ax ((ax (1+a))+b))).bind λ c=>
 some ((⟨c,a,b,1,ax (a+1),[],1⟩:aU),0)))
def vQ(s_:b9)(a:Int):Option (Bool):=
 cond ((decide (a=1))||(decide (a=2))) (some true) ((o6 a 3 (ax ((ax (3+(s_.K.a8.length:Int)))-1))).bind λ b=>
 some b)
def vR(s_:b9)(b:Int)(c:Int):Option (Bool):=
 (o6 c 0 500).bind λ d=>
 cond (d) (cond (decide (b<3)) (some true) ((idx s_.K.Fields (ax (b-3))).bind λ a=>
 some (decide (c=(a.length:Int))))) (some false)
def rM(s_:b9)(a:Int)(d:Int):Option (Bool):=
 cond (decide (a=2)) (some true) (cond (decide (3<=a)) ((idx s_.K.Fields (ax (a-3))).bind λ b=>
 (idx b d).bind λ c=>
 some (!decide (c.Kind.Kind=1))) (some false))
def Vs(s_:b9)(a:Int)(b:Int):Option (Int):=
 (vQ (⟨(⟨s_.K.a8,s_.K.aZ,s_.K.Fields,s_.K.Names,s_.K.a1⟩:aR)⟩:b9) a).bind λ c=>
 cond (!c) (some 7) ((vR (⟨(⟨s_.K.a8,s_.K.aZ,s_.K.Fields,s_.K.Names,s_.K.a1⟩:aR)⟩:b9) a b).bind λ d=>
 cond (!d) (some 3) (some 0))
def Fp(a:aU):Option (Int):=
 (o6 a.au 3 2000).bind λ Dj=>
 cond (!Dj) (some 3) ((o6 a.aN 3 2000).bind λ c=>
 cond (!c) (some 3) (cond (!decide ((a.Words.length:Int)=(ax ((ax (1+a.au))+a.aN)))) (some 1) ((o6 a.aX 1 (ax (a.au+1))).bind λ d=>
 cond (!d) (some 3) ((o6 a.aW (ax (a.au+1)) (ax ((ax (a.au+a.aN))+1))).bind λ b=>
 cond ((!b)||(decide (a.Next<1))) (some 3) (some 0)))))
def Fk(a:bj)(at_:Int):Option (Bool):=
 some ((decide (0<at_))&&(decide (at_<=a.H.au)))
def Fj(a:bj)(at_:Int):Option (Bool):=
 some ((cJ a.dH at_).getD false)
def o5(f:Int)(a:bj):Nat->(List Int)->(List (Int×Bool))->Int->Option (Way ((List Int)×Bool×bj) ((List Int)×(List (Int×Bool))))
 |0,_,_,_=>none
 |bP+1,j,d,b=>
  cond (decide (b<f)) (cond (decide (f<(ax (b+3)))) (some (.out ([],false,(⟨(⟨a.H.Words,a.H.au,a.H.aN,a.H.aX,a.H.aW,a.H.aV,a.H.Next⟩:aU),(⟨(⟨a.S.K.a8,a.S.K.aZ,a.S.K.Fields,a.S.K.Names,a.S.K.a1⟩:aR)⟩:b9),a.au,a.aN,d⟩:bj)))) ((idx a.H.Words b).bind λ e=>
  (idx a.H.Words (ax (b+1))).bind λ c=>
  (vQ (⟨(⟨a.S.K.a8,a.S.K.aZ,a.S.K.Fields,a.S.K.Names,a.S.K.a1⟩:aR)⟩:b9) e).bind λ g=>
  cond (!g) (some (.out ([],false,(⟨(⟨a.H.Words,a.H.au,a.H.aN,a.H.aX,a.H.aW,a.H.aV,a.H.Next⟩:aU),(⟨(⟨a.S.K.a8,a.S.K.aZ,a.S.K.Fields,a.S.K.Names,a.S.K.a1⟩:aR)⟩:b9),a.au,a.aN,d⟩:bj)))) ((vR (⟨(⟨a.S.K.a8,a.S.K.aZ,a.S.K.Fields,a.S.K.Names,a.S.K.a1⟩:aR)⟩:b9) e c).bind λ h=>
  cond ((!h)||(decide (f<(ax ((ax (b+3))+c))))) (some (.out ([],false,(⟨(⟨a.H.Words,a.H.au,a.H.aN,a.H.aX,a.H.aW,a.H.aV,a.H.Next⟩:aU),(⟨(⟨a.S.K.a8,a.S.K.aZ,a.S.K.Fields,a.S.K.Names,a.S.K.a1⟩:aR)⟩:b9),a.au,a.aN,d⟩:bj)))) ((bF 8 j [b]).bind λ i=>
  o5 f a bP i (gA d b true) (ax (b+(ax (3+c)))))))) (some (.go (j,d)))
def mE(F:Nat)(a:bj)(b:Int)(e:Int):Option ((List Int)×Bool×bj):=
 ch (α:=(List Int)×(List (Int×Bool))) (o5 e a F [] a.dH b) λ((c,d):(List Int)×(List (Int×Bool)))=>
 some (c,true,(⟨(⟨a.H.Words,a.H.au,a.H.aN,a.H.aX,a.H.aW,a.H.aV,a.H.Next⟩:aU),(⟨(⟨a.S.K.a8,a.S.K.aZ,a.S.K.Fields,a.S.K.Names,a.S.K.a1⟩:aR)⟩:b9),a.au,a.aN,d⟩:bj))
def vS(at_:Int)(a:bj)(QP:Int):Nat->(List Int)->Int->Option (List Int)
 |0,_,_=>none
 |bP+1,c,b=>
  cond (decide (b<QP)) (d_ (α:=List Int) ((idx a.H.Words at_).bind λ d=>
  (rM (⟨(⟨a.S.K.a8,a.S.K.aZ,a.S.K.Fields,a.S.K.Names,a.S.K.a1⟩:aR)⟩:b9) d b).bind λ e=>
  cond (e) ((bF 8 c [ax ((ax (at_+3))+b)]).bind λ f=>
  some f) (some c)) λ(g:List Int)=>
  vS at_ a QP bP g (ax (b+1))) (some c)
def qb(F:Nat)(b:bj)(at_:Int):Option (List Int):=
 (idx b.H.Words (ax (at_+1))).bind λ QP=>
 d_ (α:=List Int) (vS at_ b QP F [] 0) λ(a:List Int)=>
 some a
def PY(a:Int):Option (List Int):=
 d_ (α:=Unit) (cond (decide (a<0)) ((none:Option (Unit))) (some ())) λ(_:Unit)=>
 cond (decide (0<(ax (a-0)))) ((HQ (0 :Int) 8 (ax (a-0))).bind λ b=>
 some ([]:List Int)) (some [])
def w8(b:List (List Int)):Nat->Int->Int->Option (Int)
 |0,_,_=>none
 |bP+1,c,d=>
  cond (decide (d<(b.length:Int))) (d_ (α:=Int) ((idx b d).bind λ a=>
  cond (decide ((ax (c+(a.length:Int)))<0)) ((none:Option (Int))) (some (ax (c+(a.length:Int))))) λ(e:Int)=>
  w8 b bP e (ax (d+1))) (some c)
def w9(a:List (List Int)):Nat->(List Int)->Int->Option (List Int)
 |0,_,_=>none
 |ey+1,e,b=>
  cond (decide (b<(a.length:Int))) ((idx a b).bind λ c=>
  (bF 8 e c).bind λ d=>
  w9 a ey d (ax (b+1))) (some e)
def GB(F:Nat)(d:List (List Int)):Option (List Int):=
 d_ (α:=Int) (w8 d F 0 0) λ(a:Int)=>
 (PY a).bind λ b=>
 d_ (α:=List Int) (w9 d F b 0) λ(c:List Int)=>
 some c
def yH(F:Nat)(a:bj):Option (List Int):=
 (GB F [a.au,a.aN]).bind λ hs=>
 some hs
def cmp_isNaN_int(a:Int):Option (Bool):=
 some (!decide (a=a))
def cmp_Less_int(b:Int)(a:Int):Option (Bool):=
 (cmp_isNaN_int b).bind λ c=>
 cond (c) ((cmp_isNaN_int a).bind λ d=>
 some ((!d)||(decide (b<a)))) (some (decide (b<a)))
def P2(a:Int):Option (Bool):=
 some (!decide (a=a))
def uz(g:Int)(h:List Int):Nat->Int->Int->Option (Int)
 |0,_,_=>none
 |bP+1,a,b=>
  cond (decide (a<b)) (d_ (α:=Int×Int) ((idx h (ax (w7 (GM (ax (a+b))) 1))).bind λ c=>
  (cmp_Less_int c g).bind λ d=>
  cond (d) (some (ax ((ax (w7 (GM (ax (a+b))) 1))+1),b)) (some (a,ax (w7 (GM (ax (a+b))) 1)))) λ((e,f):Int×Int)=>
  uz g h bP e f) (some a)
def Kz(F:Nat)(b:List Int)(c:Int):Option (Int×Bool):=
 d_ (α:=Int) (uz c b F 0 (b.length:Int)) λ(a:Int)=>
 cond (decide (a<(b.length:Int))) ((idx b a).bind λ d=>
 cond (decide (d=c)) (some (a,true)) ((idx b a).bind λ e=>
 (P2 e).bind λ f=>
 cond (f) ((P2 c).bind λ g=>
 some (a,g)) (some (a,false)))) (some (a,false))
end I
namespace I
def vT(b:bj)(hs:List Int):Nat->(List (Int×Bool))->Int->Option (Way (Int) (List (Int×Bool)))
 |0,_,_=>none
 |bP+1,e,c=>
  cond (decide (c<(hs.length:Int))) ((idx hs c).bind λ d=>
  (idx b.H.Words (ax (d+2))).bind λ a=>
  cond ((decide (a<1))||(decide (b.H.Next<=a))) (some (.out 3)) (vT b hs bP (gA e a true) (ax (c+1)))) (some (.go e))
def Fl(F:Nat)(a:bj):Option (Int):=
 (yH F (⟨(⟨a.H.Words,a.H.au,a.H.aN,a.H.aX,a.H.aW,a.H.aV,a.H.Next⟩:aU),(⟨(⟨a.S.K.a8,a.S.K.aZ,a.S.K.Fields,a.S.K.Names,a.S.K.a1⟩:aR)⟩:b9),a.au,a.aN,a.dH⟩:bj)).bind λ hs=>
 ch (α:=List (Int×Bool)) (vT a hs F [] 0) λ(b:List (Int×Bool))=>
 cond (decide ((b.length:Int)<(a.dH.length:Int))) (some 6) (some 0)
def Vt(a:Int):Option (Bool):=
 some (!decide (a=0))
def zW(s_:List Int):Nat->Int->Option (Way (Int) (Unit))
 |0,_=>none
 |bP+1,a=>
  cond (decide (a<(s_.length:Int))) ((idx s_ a).bind λ b=>
  (Vt b).bind λ c=>
  cond (c) (some (.out a)) (zW s_ bP (ax (a+1)))) (some (.go ()))
def P0(F:Nat)(s_:List Int):Option (Int):=
 ch (α:=Unit) (zW s_ F 0) λ(_:Unit)=>
 some (-1)
def PW(F:Nat)(s_:List Int):Option (Bool):=
 (P0 F s_).bind λ a=>
 some (decide (0<=a))
def vV(b:bj)(c:List Int):Nat->Int->Option (Way (Int) (Unit))
 |0,_=>none
 |ey+1,d=>
  cond (decide (d<(c.length:Int))) ((idx c d).bind λ e=>
  (idx b.H.Words e).bind λ a=>
  cond (!decide (a=0)) (cond (!((cJ b.dH a).getD false)) (some (.out 5)) (vV b c ey (ax (d+1)))) (vV b c ey (ax (d+1)))) (some (.go ()))
def yI(F:Nat)(a:bj)(b:List Int):Nat->Int->Option (Way (Int) (Unit))
 |0,_=>none
 |bP+1,c=>
  cond (decide (c<(b.length:Int))) (cY (α:=Unit) ((idx b c).bind λ d=>
  (qb F (⟨(⟨a.H.Words,a.H.au,a.H.aN,a.H.aX,a.H.aW,a.H.aV,a.H.Next⟩:aU),(⟨(⟨a.S.K.a8,a.S.K.aZ,a.S.K.Fields,a.S.K.Names,a.S.K.a1⟩:aR)⟩:b9),a.au,a.aN,a.dH⟩:bj) d).bind λ e=>
  cY (α:=Unit) (vV a e F 0) λ(_:Unit)=>
  some (.go ())) λ(_:Unit)=>
  yI F a b bP (ax (c+1))) (some (.go ()))
def Fo(F:Nat)(a:bj):Option (Int):=
 (yH F (⟨(⟨a.H.Words,a.H.au,a.H.aN,a.H.aX,a.H.aW,a.H.aV,a.H.Next⟩:aU),(⟨(⟨a.S.K.a8,a.S.K.aZ,a.S.K.Fields,a.S.K.Names,a.S.K.a1⟩:aR)⟩:b9),a.au,a.aN,a.dH⟩:bj)).bind λ g=>
 ch (α:=Unit) (yI F a g F 0) λ(_:Unit)=>
 (cut a.H.Words 0 1).bind λ b=>
 (cut a.H.Words a.H.aX (ax (a.H.au+1))).bind λ c=>
 (cut a.H.Words a.H.aW (a.H.Words.length:Int)).bind λ d=>
 (GB F [b,c,d]).bind λ e=>
 (PW F e).bind λ f=>
 cond (f) (some 1) (some 0)
def Nr(c:Int)(a:bj):Option (Bool):=
 (idx a.H.Words c).bind λ b=>
 (Fk (⟨(⟨a.H.Words,a.H.au,a.H.aN,a.H.aX,a.H.aW,a.H.aV,a.H.Next⟩:aU),(⟨(⟨a.S.K.a8,a.S.K.aZ,a.S.K.Fields,a.S.K.Names,a.S.K.a1⟩:aR)⟩:b9),a.au,a.aN,a.dH⟩:bj) b).bind λ d=>
 some d
def zV(s_:List Int)(a:bj):Nat->Int->Option (Way (Int) (Unit))
 |0,_=>none
 |bP+1,b=>
  cond (decide (b<(s_.length:Int))) ((idx s_ b).bind λ c=>
  (Nr c (⟨(⟨a.H.Words,a.H.au,a.H.aN,a.H.aX,a.H.aW,a.H.aV,a.H.Next⟩:aU),(⟨(⟨a.S.K.a8,a.S.K.aZ,a.S.K.Fields,a.S.K.Names,a.S.K.a1⟩:aR)⟩:b9),a.au,a.aN,a.dH⟩:bj)).bind λ d=>
  cond (d) (some (.out b)) (zV s_ a bP (ax (b+1)))) (some (.go ()))
def PZ(F:Nat)(s_:List Int)(a:bj):Option (Int):=
 ch (α:=Unit) (zV s_ a F 0) λ(_:Unit)=>
 some (-1)
def PV(F:Nat)(s_:List Int)(a:bj):Option (Bool):=
 (PZ F s_ (⟨(⟨a.H.Words,a.H.au,a.H.aN,a.H.aX,a.H.aW,a.H.aV,a.H.Next⟩:aU),(⟨(⟨a.S.K.a8,a.S.K.aZ,a.S.K.Fields,a.S.K.Names,a.S.K.a1⟩:aR)⟩:b9),a.au,a.aN,a.dH⟩:bj)).bind λ b=>
 some (decide (0<=b))
def tD(F:Nat)(a:bj):Nat->Int->Option (Way (Int) (Unit))
 |0,_=>none
 |bP+1,c=>
  cond (decide (c<(a.H.aV.length:Int))) ((idx a.H.aV c).bind λ b=>
  cond (decide (0<c)) ((idx a.H.aV (ax (c-1))).bind λ d=>
  cond (decide (b<=d)) (some (.out 4)) (cond (!((cJ a.dH b).getD false)) (some (.out 4)) ((Fk (⟨(⟨a.H.Words,a.H.au,a.H.aN,a.H.aX,a.H.aW,a.H.aV,a.H.Next⟩:aU),(⟨(⟨a.S.K.a8,a.S.K.aZ,a.S.K.Fields,a.S.K.Names,a.S.K.a1⟩:aR)⟩:b9),a.au,a.aN,a.dH⟩:bj) b).bind λ g=>
  cond (g) (some (.out 4)) ((qb F (⟨(⟨a.H.Words,a.H.au,a.H.aN,a.H.aX,a.H.aW,a.H.aV,a.H.Next⟩:aU),(⟨(⟨a.S.K.a8,a.S.K.aZ,a.S.K.Fields,a.S.K.Names,a.S.K.a1⟩:aR)⟩:b9),a.au,a.aN,a.dH⟩:bj) b).bind λ h=>
  cond (decide ((h.length:Int)=0)) (some (.out 4)) (tD F a bP (ax (c+1))))))) (cond (!((cJ a.dH b).getD false)) (some (.out 4)) ((Fk (⟨(⟨a.H.Words,a.H.au,a.H.aN,a.H.aX,a.H.aW,a.H.aV,a.H.Next⟩:aU),(⟨(⟨a.S.K.a8,a.S.K.aZ,a.S.K.Fields,a.S.K.Names,a.S.K.a1⟩:aR)⟩:b9),a.au,a.aN,a.dH⟩:bj) b).bind λ e=>
  cond (e) (some (.out 4)) ((qb F (⟨(⟨a.H.Words,a.H.au,a.H.aN,a.H.aX,a.H.aW,a.H.aV,a.H.Next⟩:aU),(⟨(⟨a.S.K.a8,a.S.K.aZ,a.S.K.Fields,a.S.K.Names,a.S.K.a1⟩:aR)⟩:b9),a.au,a.aN,a.dH⟩:bj) b).bind λ f=>
  cond (decide ((f.length:Int)=0)) (some (.out 4)) (tD F a bP (ax (c+1))))))) (some (.go ()))
def vU(F:Nat)(a:bj):Nat->Int->Option (Way (Int) (Unit))
 |0,_=>none
 |ey+1,c=>
  cond (decide (c<(a.aN.length:Int))) ((idx a.aN c).bind λ b=>
  (Kz F a.H.aV b).bind λ d=>
  cond (!d.2) ((qb F (⟨(⟨a.H.Words,a.H.au,a.H.aN,a.H.aX,a.H.aW,a.H.aV,a.H.Next⟩:aU),(⟨(⟨a.S.K.a8,a.S.K.aZ,a.S.K.Fields,a.S.K.Names,a.S.K.a1⟩:aR)⟩:b9),a.au,a.aN,a.dH⟩:bj) b).bind λ e=>
  (PV F e (⟨(⟨a.H.Words,a.H.au,a.H.aN,a.H.aX,a.H.aW,a.H.aV,a.H.Next⟩:aU),(⟨(⟨a.S.K.a8,a.S.K.aZ,a.S.K.Fields,a.S.K.Names,a.S.K.a1⟩:aR)⟩:b9),a.au,a.aN,a.dH⟩:bj)).bind λ f=>
  cond (f) (some (.out 4)) (vU F a ey (ax (c+1)))) (vU F a ey (ax (c+1)))) (some (.go ()))
def Fm(F:Nat)(a:bj):Option (Int):=
 ch (α:=Unit) (tD F a F 0) λ(_:Unit)=>
 ch (α:=Unit) (vU F a F 0) λ(_:Unit)=>
 some 0
end I
namespace I
def tE(F:Nat)(a:aU)(b:aR):Option ((Option bj)×Int):=
 (Fp (⟨a.Words,a.au,a.aN,a.aX,a.aW,a.aV,a.Next⟩:aU)).bind λ e=>
 cond (!decide (e=0)) (some ((none:Option bj),e)) ((mE F (⟨(⟨a.Words,a.au,a.aN,a.aX,a.aW,a.aV,a.Next⟩:aU),(⟨(⟨b.a8,b.aZ,b.Fields,b.Names,b.a1⟩:aR)⟩:b9),[],[],[]⟩:bj) 1 a.aX).bind λ hs=>
 (mE F (⟨(⟨a.Words,a.au,a.aN,a.aX,a.aW,a.aV,a.Next⟩:aU),(⟨(⟨b.a8,b.aZ,b.Fields,b.Names,b.a1⟩:aR)⟩:b9),[],[],hs.2.2.dH⟩:bj) (ax (a.au+1)) a.aW).bind λ c=>
 cond ((!hs.2.1)||(!c.2.1)) (some ((none:Option bj),1)) ((Fl F (⟨(⟨a.Words,a.au,a.aN,a.aX,a.aW,a.aV,a.Next⟩:aU),(⟨(⟨b.a8,b.aZ,b.Fields,b.Names,b.a1⟩:aR)⟩:b9),hs.1,c.1,c.2.2.dH⟩:bj)).bind λ d=>
 cond (!decide (d=0)) (some ((none:Option bj),d)) ((Fo F (⟨(⟨a.Words,a.au,a.aN,a.aX,a.aW,a.aV,a.Next⟩:aU),(⟨(⟨b.a8,b.aZ,b.Fields,b.Names,b.a1⟩:aR)⟩:b9),hs.1,c.1,c.2.2.dH⟩:bj)).bind λ f=>
 cond (!decide (f=0)) (some ((none:Option bj),f)) ((Fm F (⟨(⟨a.Words,a.au,a.aN,a.aX,a.aW,a.aV,a.Next⟩:aU),(⟨(⟨b.a8,b.aZ,b.Fields,b.Names,b.a1⟩:aR)⟩:b9),hs.1,c.1,c.2.2.dH⟩:bj)).bind λ g=>
 cond (!decide (g=0)) (some ((none:Option bj),g)) (some ((some (⟨(⟨a.Words,a.au,a.aN,a.aX,a.aW,a.aV,a.Next⟩:aU),(⟨(⟨b.a8,b.aZ,b.Fields,b.Names,b.a1⟩:aR)⟩:b9),hs.1,c.1,c.2.2.dH⟩:bj)),0))))))
end I
namespace I
def j'(F:Nat)(b:aU)(a:aR):Option ((Option bj)×Int):=
 (n' F (⟨a.a8,a.aZ,a.Fields,a.Names,a.a1⟩:aR)).bind λ c=>
 cond (!decide (c=0)) (some ((none:Option bj),c)) ((tE F (⟨b.Words,b.au,b.aN,b.aX,b.aW,b.aV,b.Next⟩:aU) (⟨a.a8,a.aZ,a.Fields,a.Names,a.a1⟩:aR)).bind λ d=>
 some (d.1,d.2))
def PU(s_:List Int):Option (List Int):=
 (bF 8 ([]:List Int) s_).bind λ a=>
 some a
def nZ(a:aU):Option (aU):=
 (PU a.Words).bind λ b=>
 (PU a.aV).bind λ c=>
 some (⟨b,a.au,a.aN,a.aX,a.aW,c,a.Next⟩:aU)
def Vr(a:aU)(i:Int)(b:Int)(j:Bool):Option (Int×Bool×aU):=
 cond (j) (cond (decide ((ax ((ax ((ax (a.au+a.aN))+1))-a.aW))<(ax (3+b)))) (some (0,false,(⟨a.Words,a.au,a.aN,a.aX,a.aW,a.aV,a.Next⟩:aU))) ((idx a.Words a.aW).bind λ k=>
 (some (a.Words.set (a.aW).toNat i)).bind λ c=>
 (idx c (ax (a.aW+1))).bind λ p=>
 (some (c.set (ax (a.aW+1)).toNat b)).bind λ d=>
 (idx d (ax (a.aW+2))).bind λ l=>
 (some (d.set (ax (a.aW+2)).toNat a.Next)).bind λ g=>
 some (a.aW,true,(⟨g,a.au,a.aN,a.aX,ax (a.aW+(ax (3+b))),a.aV,ax (a.Next+1)⟩:aU)))) (cond (decide ((ax ((ax (a.au+1))-a.aX))<(ax (3+b)))) (some (0,false,(⟨a.Words,a.au,a.aN,a.aX,a.aW,a.aV,a.Next⟩:aU))) ((idx a.Words a.aX).bind λ m=>
 (some (a.Words.set (a.aX).toNat i)).bind λ e=>
 (idx e (ax (a.aX+1))).bind λ n=>
 (some (e.set (ax (a.aX+1)).toNat b)).bind λ f=>
 (idx f (ax (a.aX+2))).bind λ o=>
 (some (f.set (ax (a.aX+2)).toNat a.Next)).bind λ h=>
 some (a.aX,true,(⟨h,a.au,a.aN,ax (a.aX+(ax (3+b))),a.aW,a.aV,ax (a.Next+1)⟩:aU))))
def agt(F:Nat)(a:aU)(d:aR)(h:Int)(i:Int)(j:Bool):Option (aU×Int×Int):=
 (j' F (⟨a.Words,a.au,a.aN,a.aX,a.aW,a.aV,a.Next⟩:aU) (⟨d.a8,d.aZ,d.Fields,d.Names,d.a1⟩:aR)).bind λ f=>
 d_ (α:=Int) (cond (decide (f.2=0)) ((f.1).bind λ Lp=>
 (Vs (⟨(⟨Lp.S.K.a8,Lp.S.K.aZ,Lp.S.K.Fields,Lp.S.K.Names,Lp.S.K.a1⟩:aR)⟩:b9) h i).bind λ g=>
 some g) (some f.2)) λ(e:Int)=>
 cond (!decide (e=0)) (some ((⟨[],0,0,0,0,[],0⟩:aU),0,e)) ((nZ (⟨a.Words,a.au,a.aN,a.aX,a.aW,a.aV,a.Next⟩:aU)).bind λ b=>
 (Vr (⟨b.Words,b.au,b.aN,b.aX,b.aW,b.aV,b.Next⟩:aU) h i j).bind λ c=>
 cond (!c.2.1) (some ((⟨[],0,0,0,0,[],0⟩:aU),0,8)) (some ((⟨c.2.2.Words,b.au,b.aN,c.2.2.aX,c.2.2.aW,b.aV,c.2.2.Next⟩:aU),c.1,0)))
end I
namespace I
def u_(b8:List Int)(b:List Int):Nat->Int->Option (Way (Bool) (Unit))
 |0,_=>none
 |bP+1,a=>
  cond (decide (a<(b8.length:Int))) ((idx b8 a).bind λ c=>
  (idx b a).bind λ d=>
  cond (!decide (c=d)) (some (.out false)) (u_ b8 b bP (ax (a+1)))) (some (.go ()))
def nE(F:Nat)(b8:List Int)(a:List Int):Option (Bool):=
 cond (!decide ((b8.length:Int)=(a.length:Int))) (some false) (ch (α:=Unit) (u_ b8 a F 0) λ(_:Unit)=>
 some true)
def Bv(F:Nat)(b8:aU)(a:aU):Option (Bool):=
 (nE F b8.Words a.Words).bind λ b=>
 cond ((((b&&(decide (b8.au=a.au)))&&(decide (b8.aN=a.aN)))&&(decide (b8.aX=a.aX)))&&(decide (b8.aW=a.aW))) ((nE F b8.aV a.aV).bind λ c=>
 some (c&&(decide (b8.Next=a.Next)))) (some false)
def AX(F:Nat)(a:aU)(e_:Int)(j:Int)(b:aU):Option (Bool):=
 d_ (α:=(List Int)×Int×Int×Int×Int×(List Int)×Int) (cond (!decide (j=0)) (some ([],0,0,0,0,[],0)) (some (b.Words,b.au,b.aN,b.aX,b.aW,b.aV,b.Next))) λ((c,d,e,f,g,h,i):(List Int)×Int×Int×Int×Int×(List Int)×Int)=>
 cond (decide (e_=j)) ((Bv F (⟨a.Words,a.au,a.aN,a.aX,a.aW,a.aV,a.Next⟩:aU) (⟨c,d,e,f,g,h,i⟩:aU)).bind λ k=>
 some k) (some false)
end I
namespace I
def Ew(b:aR)(a:Int):Option (Bool):=
 some ((decide (1<=a))&&(decide (a<(ax (3+(b.a8.length:Int))))))
def Ev(d:aR)(b:Int)(c:Int):Option (Bool):=
 (fK c 0 500).bind λ e=>
 cond (e) (cond (decide (b<3)) (some true) ((idx d.Fields (ax (b-3))).bind λ a=>
 some (decide (c=(a.length:Int))))) (some false)
def s5(d:aR)(a:Int)(e:Int):Option (Bool):=
 cond (decide (a=2)) (some true) (cond (decide (3<=a)) ((idx d.Fields (ax (a-3))).bind λ b=>
 (idx b e).bind λ c=>
 some (!decide (c.Kind.Kind=1))) (some false))
def x5(c:aU)(a:aR)(e:Int):Nat->(List Int)->Int->Option (Way ((List Int)×Bool) ((List Int)×Int))
 |0,_,_=>none
 |bP+1,d,b=>
  cond (decide (b<e)) (cond (decide (e<(ax (b+3)))) (some (.out ([],false))) ((idx c.Words b).bind λ f=>
  (Ew (⟨a.a8,a.aZ,a.Fields,a.Names,a.a1⟩:aR) f).bind λ g=>
  cond (!g) (some (.out ([],false))) ((idx c.Words b).bind λ h=>
  (idx c.Words (ax (b+1))).bind λ i=>
  (Ev (⟨a.a8,a.aZ,a.Fields,a.Names,a.a1⟩:aR) h i).bind λ j=>
  cond (!j) (some (.out ([],false))) ((bF 8 d [b]).bind λ k=>
  (idx c.Words (ax (b+1))).bind λ l=>
  x5 c a e bP k (ax (b+(ax (3+l)))))))) (some (.go (d,b)))
def q'(F:Nat)(e:aU)(f:aR)(a:Int)(d:Int):Option ((List Int)×Bool):=
 ch (α:=(List Int)×Int) (x5 e f d F [] a) λ((b,c):(List Int)×Int)=>
 some (b,decide (c=d))
def Bj(a:List Int)(c:Int):Nat->Int->Option (Way (Bool) (Unit))
 |0,_=>none
 |bP+1,b=>
  cond (decide (b<(a.length:Int))) ((idx a b).bind λ d=>
  cond (decide (d=c)) (some (.out true)) (Bj a c bP (ax (b+1)))) (some (.go ()))
def kW(F:Nat)(a:List Int)(b:Int):Option (Bool):=
 ch (α:=Unit) (Bj a b F 0) λ(_:Unit)=>
 some false
def u7(at_:Int)(c:aU)(a:aR):Nat->(List Int)->Int->Option (List Int)
 |0,_,_=>none
 |bP+1,d,b=>
  (idx c.Words (ax (at_+1))).bind λ e=>
  cond (decide (b<e)) (d_ (α:=List Int) ((idx c.Words at_).bind λ f=>
  (s5 (⟨a.a8,a.aZ,a.Fields,a.Names,a.a1⟩:aR) f b).bind λ g=>
  cond (g) ((bF 8 d [ax ((ax (at_+3))+b)]).bind λ h=>
  some h) (some d)) λ(i:List Int)=>
  u7 at_ c a bP i (ax (b+1))) (some d)
def oU(F:Nat)(b:aU)(c:aR)(at_:Int):Option (List Int):=
 d_ (α:=List Int) (u7 at_ b c F [] 0) λ(a:List Int)=>
 some a
def ra(F:Nat)(a:aU)(b:aR):Option ((List Int)×(List Int)×Bool):=
 (q' F (⟨a.Words,a.au,a.aN,a.aX,a.aW,a.aV,a.Next⟩:aU) (⟨b.a8,b.aZ,b.Fields,b.Names,b.a1⟩:aR) 1 a.aX).bind λ c=>
 (q' F (⟨a.Words,a.au,a.aN,a.aX,a.aW,a.aV,a.Next⟩:aU) (⟨b.a8,b.aZ,b.Fields,b.Names,b.a1⟩:aR) (ax (a.au+1)) a.aW).bind λ hs=>
 some (c.1,hs.1,c.2&&hs.2)
end I
namespace I
def A2(a:aU)(b:List Int):Nat->Int->Option (Way (Int) (Unit))
 |0,_=>none
 |bP+1,c=>
  cond (decide (c<(b.length:Int))) ((idx b c).bind λ d=>
  (idx a.Words (ax (d+2))).bind λ f=>
  (fK f 1 (ax (a.Next-1))).bind λ e=>
  cond (!e) (some (.out 3)) (A2 a b bP (ax (c+1)))) (some (.go ()))
def A3(a:aU)(b:List Int)(C7:Int):Nat->Int->Option (Way (Int) (Unit))
 |0,_=>none
 |ho+1,c=>
  cond (decide (c<C7)) ((idx b C7).bind λ d=>
  (idx a.Words (ax (d+2))).bind λ e=>
  (idx b c).bind λ f=>
  (idx a.Words (ax (f+2))).bind λ g=>
  cond (decide (e=g)) (some (.out 6)) (A3 a b C7 ho (ax (c+1)))) (some (.go ()))
def xW(F:Nat)(b:aU)(a:List Int):Nat->Int->Option (Way (Int) (Unit))
 |0,_=>none
 |ey+1,C7=>
  cond (decide (C7<(a.length:Int))) (cY (α:=Unit) (cY (α:=Unit) (A3 b a C7 F 0) λ(_:Unit)=>
  some (.go ())) λ(_:Unit)=>
  xW F b a ey (ax (C7+1))) (some (.go ()))
def xX(F:Nat)(c:aU)(d:List Int)(a:List Int):Nat->Int->Option (Way (Int) (Unit))
 |0,_=>none
 |tP+1,b=>
  cond (decide (b<(a.length:Int))) ((idx a b).bind λ e=>
  (idx c.Words e).bind λ f=>
  cond (!decide (f=0)) ((idx a b).bind λ g=>
  (idx c.Words g).bind λ h=>
  (kW F d h).bind λ i=>
  cond (!i) (some (.out 5)) (xX F c d a tP (ax (b+1)))) (xX F c d a tP (ax (b+1)))) (some (.go ()))
def A4(F:Nat)(a:aU)(b:aR)(c:List Int):Nat->Int->Option (Way (Int) (Unit))
 |0,_=>none
 |lU+1,d=>
  cond (decide (d<(c.length:Int))) (cY (α:=Unit) ((idx c d).bind λ e=>
  (oU F (⟨a.Words,a.au,a.aN,a.aX,a.aW,a.aV,a.Next⟩:aU) (⟨b.a8,b.aZ,b.Fields,b.Names,b.a1⟩:aR) e).bind λ f=>
  cY (α:=Unit) (xX F a c f F 0) λ(_:Unit)=>
  some (.go ())) λ(_:Unit)=>
  A4 F a b c lU (ax (d+1))) (some (.go ()))
def u5(a:aU):Nat->Int->Option (Way (Int) (Unit))
 |0,_=>none
 |yW+1,C3=>
  cond (decide (C3<(a.Words.length:Int))) ((idx a.Words C3).bind λ b=>
  cond (!decide (b=0)) (cond (decide (C3=0)) (some (.out 1)) ((fK C3 a.aX a.au).bind λ c=>
  cond (c||(decide (a.aW<=C3))) (some (.out 1)) (u5 a yW (ax (C3+1))))) (u5 a yW (ax (C3+1)))) (some (.go ()))
def pV(F:Nat)(a:aU)(b:aR)(d:(List Int)×(List Int)×Bool):Nat->Int->Option (Way (Int) (Unit))
 |0,_=>none
 |N3+1,c=>
  cond (decide (c<(a.aV.length:Int))) (cond (decide (0<c)) ((idx a.aV c).bind λ e=>
  (idx a.aV (ax (c-1))).bind λ f=>
  cond (decide (e<=f)) (some (.out 4)) ((idx a.aV c).bind λ g=>
  (kW F d.2.1 g).bind λ m=>
  cond (!m) (some (.out 4)) ((idx a.aV c).bind λ h=>
  (oU F (⟨a.Words,a.au,a.aN,a.aX,a.aW,a.aV,a.Next⟩:aU) (⟨b.a8,b.aZ,b.Fields,b.Names,b.a1⟩:aR) h).bind λ n=>
  cond (decide ((n.length:Int)=0)) (some (.out 4)) (pV F a b d N3 (ax (c+1)))))) ((idx a.aV c).bind λ i=>
  (kW F d.2.1 i).bind λ j=>
  cond (!j) (some (.out 4)) ((idx a.aV c).bind λ k=>
  (oU F (⟨a.Words,a.au,a.aN,a.aX,a.aW,a.aV,a.Next⟩:aU) (⟨b.a8,b.aZ,b.Fields,b.Names,b.a1⟩:aR) k).bind λ l=>
  cond (decide ((l.length:Int)=0)) (some (.out 4)) (pV F a b d N3 (ax (c+1)))))) (some (.go ()))
def q8(F:Nat)(a:aU)(d:(List Int)×(List Int)×Bool)(e:Int)(b:List Int):Nat->Int->Option (Way (Int) (Unit))
 |0,_=>none
 |N4+1,c=>
  cond (decide (c<(b.length:Int))) ((idx b c).bind λ f=>
  (idx a.Words f).bind λ g=>
  (fK g 1 a.au).bind λ h=>
  cond (h) ((idx d.2.1 e).bind λ i=>
  (kW F a.aV i).bind λ j=>
  cond (!j) (some (.out 4)) (q8 F a d e b N4 (ax (c+1)))) (q8 F a d e b N4 (ax (c+1)))) (some (.go ()))
def sY(F:Nat)(a:aU)(b:aR)(c:(List Int)×(List Int)×Bool):Nat->Int->Option (Way (Int) (Unit))
 |0,_=>none
 |WL+1,d=>
  cond (decide (d<(c.2.1.length:Int))) (cY (α:=Unit) ((idx c.2.1 d).bind λ e=>
  (oU F (⟨a.Words,a.au,a.aN,a.aX,a.aW,a.aV,a.Next⟩:aU) (⟨b.a8,b.aZ,b.Fields,b.Names,b.a1⟩:aR) e).bind λ f=>
  cY (α:=Unit) (q8 F a c d f F 0) λ(_:Unit)=>
  some (.go ())) λ(_:Unit)=>
  sY F a b c WL (ax (d+1))) (some (.go ()))
def Eu(F:Nat)(a:aU)(b:aR):Option (Int):=
 (fK a.au 3 2000).bind λ f=>
 cond (!f) (some 3) ((fK a.aN 3 2000).bind λ g=>
 cond (!g) (some 3) (cond (!decide ((a.Words.length:Int)=(ax ((ax (1+a.au))+a.aN)))) (some 1) ((fK a.aX 1 (ax (a.au+1))).bind λ h=>
 cond (!h) (some 3) ((fK a.aW (ax (a.au+1)) (ax ((ax (a.au+a.aN))+1))).bind λ i=>
 cond ((!i)||(decide (a.Next<1))) (some 3) ((ra F (⟨a.Words,a.au,a.aN,a.aX,a.aW,a.aV,a.Next⟩:aU) (⟨b.a8,b.aZ,b.Fields,b.Names,b.a1⟩:aR)).bind λ c=>
 cond (!c.2.2) (some 1) ((bF 8 ([]:List Int) c.1).bind λ d=>
 (bF 8 d c.2.1).bind λ e=>
 ch (α:=Unit) (A2 a e F 0) λ(_:Unit)=>
 ch (α:=Unit) (xW F a e F 0) λ(_:Unit)=>
 ch (α:=Unit) (A4 F a b e F 0) λ(_:Unit)=>
 ch (α:=Unit) (u5 a F 0) λ(_:Unit)=>
 ch (α:=Unit) (pV F a b c F 0) λ(_:Unit)=>
 ch (α:=Unit) (sY F a b c F 0) λ(_:Unit)=>
 some 0))))))
def x3(F:Nat)(b:aU)(a:aR):Option (Int):=
 (s3 F (⟨a.a8,a.aZ,a.Fields,a.Names,a.a1⟩:aR)).bind λ c=>
 cond (decide (c=0)) ((Eu F (⟨b.Words,b.au,b.aN,b.aX,b.aW,b.aV,b.Next⟩:aU) (⟨a.a8,a.aZ,a.Fields,a.Names,a.a1⟩:aR)).bind λ d=>
 some d) (some c)
end I
namespace I
def aca(a:aU):Option (Int):=
 some (ax ((ax ((ax ((ax (a.au+a.aN))+1))-a.aW))- (ax (a.aX-1))))
def aok(F:Nat)(a:aU)(b:aR):Option (Int×Int):=
 (j' F (⟨a.Words,a.au,a.aN,a.aX,a.aW,a.aV,a.Next⟩:aU) (⟨b.a8,b.aZ,b.Fields,b.Names,b.a1⟩:aR)).bind λ c=>
 cond (!decide (c.2=0)) (some (0,c.2)) ((aca (⟨a.Words,a.au,a.aN,a.aX,a.aW,a.aV,a.Next⟩:aU)).bind λ d=>
 some (d,0))
def acO(a:aU):Option (Int):=
 some (ax ((ax ((ax ((ax ((ax (a.au+a.aN))+1))-a.aW))-a.aX))+1))
end I
namespace I
def RJ(at_:Int)(a:bj):Option (Bool):=
 cond (!decide (at_=0)) ((Fj (⟨(⟨a.H.Words,a.H.au,a.H.aN,a.H.aX,a.H.aW,a.H.aV,a.H.Next⟩:aU),(⟨(⟨a.S.K.a8,a.S.K.aZ,a.S.K.Fields,a.S.K.Names,a.S.K.a1⟩:aR)⟩:b9),a.au,a.aN,a.dH⟩:bj) at_).bind λ b=>
 some (!b)) (some false)
def zX(s_:List Int)(a:bj):Nat->Int->Option (Way (Int) (Unit))
 |0,_=>none
 |bP+1,b=>
  cond (decide (b<(s_.length:Int))) ((idx s_ b).bind λ c=>
  (RJ c (⟨(⟨a.H.Words,a.H.au,a.H.aN,a.H.aX,a.H.aW,a.H.aV,a.H.Next⟩:aU),(⟨(⟨a.S.K.a8,a.S.K.aZ,a.S.K.Fields,a.S.K.Names,a.S.K.a1⟩:aR)⟩:b9),a.au,a.aN,a.dH⟩:bj)).bind λ d=>
  cond (d) (some (.out b)) (zX s_ a bP (ax (b+1)))) (some (.go ()))
def P1(F:Nat)(s_:List Int)(a:bj):Option (Int):=
 ch (α:=Unit) (zX s_ a F 0) λ(_:Unit)=>
 some (-1)
def PX(F:Nat)(s_:List Int)(a:bj):Option (Bool):=
 (P1 F s_ (⟨(⟨a.H.Words,a.H.au,a.H.aN,a.H.aX,a.H.aW,a.H.aV,a.H.Next⟩:aU),(⟨(⟨a.S.K.a8,a.S.K.aZ,a.S.K.Fields,a.S.K.Names,a.S.K.a1⟩:aR)⟩:b9),a.au,a.aN,a.dH⟩:bj)).bind λ b=>
 some (decide (0<=b))
def Ec(F:Nat)(a:bj)(b:List Int):Option (Int):=
 cond (decide (1000<(b.length:Int))) (some 2) ((PX F b (⟨(⟨a.H.Words,a.H.au,a.H.aN,a.H.aX,a.H.aW,a.H.aV,a.H.Next⟩:aU),(⟨(⟨a.S.K.a8,a.S.K.aZ,a.S.K.Fields,a.S.K.Names,a.S.K.a1⟩:aR)⟩:b9),a.au,a.aN,a.dH⟩:bj)).bind λ c=>
 cond (c) (some 5) (some 0))
def pW(F:Nat)(a:List Int)(c:(List Int)×(List Int)×Bool):Nat->Int->Option (Way (Int) (Unit))
 |0,_=>none
 |bP+1,b=>
  cond (decide (b<(a.length:Int))) ((idx a b).bind λ d=>
  cond (!decide (d=0)) ((idx a b).bind λ e=>
  (kW F c.1 e).bind λ f=>
  cond (!f) ((idx a b).bind λ g=>
  (kW F c.2.1 g).bind λ h=>
  cond (!h) (some (.out 5)) (pW F a c bP (ax (b+1)))) (pW F a c bP (ax (b+1)))) (pW F a c bP (ax (b+1)))) (some (.go ()))
def x1(F:Nat)(a:aU)(b:aR)(c:List Int):Option (Int):=
 cond (decide (1000<(c.length:Int))) (some 2) ((ra F (⟨a.Words,a.au,a.aN,a.aX,a.aW,a.aV,a.Next⟩:aU) (⟨b.a8,b.aZ,b.Fields,b.Names,b.a1⟩:aR)).bind λ d=>
 ch (α:=Unit) (pW F c d F 0) λ(_:Unit)=>
 some 0)
def Sg(F:Nat)(a:aU)(b:aR)(d:List Int):Option (Int):=
 (x3 F (⟨a.Words,a.au,a.aN,a.aX,a.aW,a.aV,a.Next⟩:aU) (⟨b.a8,b.aZ,b.Fields,b.Names,b.a1⟩:aR)).bind λ c=>
 cond (decide (c=0)) ((x1 F (⟨a.Words,a.au,a.aN,a.aX,a.aW,a.aV,a.Next⟩:aU) (⟨b.a8,b.aZ,b.Fields,b.Names,b.a1⟩:aR) d).bind λ hs=>
 some hs) (some c)
end I
namespace I
def acP(b:List Int)(c:Int):Nat->Int->Option (Way (Int) (Unit))
 |0,_=>none
 |bP+1,a=>
  cond (decide (a<(b.length:Int))) ((idx b a).bind λ d=>
  cond (decide (d=c)) (some (.out a)) (acP b c bP (ax (a+1)))) (some (.go ()))
def Bm(F:Nat)(a:List Int)(b:Int):Option (Int):=
 ch (α:=Unit) (acP a b F 0) λ(_:Unit)=>
 some (-1)
def HH(F:Nat)(at_:Int)(c:aU)(a:List Int):Option (List Int):=
 (fK at_ 1 c.au).bind λ d=>
 cond (d) ((kW F a at_).bind λ e=>
 cond (!e) ((bF 8 a [at_]).bind λ b=>
 some b) (some a)) (some a)
end I
namespace I
def xP(F:Nat)(at_:Int)(b:List Int):Option (Int×(List Int)):=
 cond (decide (at_=0)) (some (0,b)) ((Bm F b at_).bind λ c=>
 cond (decide (c<0)) ((bF 8 b [at_]).bind λ a=>
 some (ax ((ax ((a.length:Int)-1))+1),a)) (some (ax (c+1),b)))
def acI(F:Nat)(c:List Int):Nat->(List Int)->(List Int)->Int->Option ((List Int)×(List Int))
 |0,_,_,_=>none
 |bP+1,g,a,d=>
  cond (decide (d<(c.length:Int))) ((idx c d).bind λ e=>
  (xP F e a).bind λ b=>
  (bF 8 g [b.1]).bind λ f=>
  acI F c bP f b.2 (ax (d+1))) (some (g,a))
def acJ(F:Nat)(e:aU)(a:aR)(f:Int):Nat->(List Int)->(List Int)->Int->Option ((List Int)×(List Int))
 |0,_,_,_=>none
 |ho+1,b,h,g=>
  (idx e.Words (ax (f+1))).bind λ i=>
  cond (decide (g<i)) (d_ (α:=(List Int)×(List Int)) ((idx e.Words (ax ((ax (f+3))+g))).bind λ c=>
  d_ (α:=(List Int)×Int) ((idx e.Words f).bind λ j=>
  (s5 (⟨a.a8,a.aZ,a.Fields,a.Names,a.a1⟩:aR) j g).bind λ k=>
  cond (k) ((xP F c h).bind λ d=>
  some (d.2,d.1)) (some (h,c))) λ((l,m):(List Int)×Int)=>
  (bF 8 b [m]).bind λ n=>
  some (n,l)) λ((o,p):(List Int)×(List Int))=>
  acJ F e a f ho o p (ax (g+1))) (some (b,h))
def sS(F:Nat)(a:aU)(n:aR):Nat->(List Int)->(List Int)->Int->Option ((List Int)×(List Int))
 |0,_,_,_=>none
 |ey+1,b,c,e=>
  cond (decide (e<(c.length:Int))) (d_ (α:=(List Int)×(List Int)) ((idx c e).bind λ d=>
  (idx a.Words d).bind λ f=>
  (idx a.Words (ax (d+1))).bind λ g=>
  (idx a.Words (ax (d+2))).bind λ h=>
  (bF 8 b [f,g,h]).bind λ i=>
  d_ (α:=(List Int)×(List Int)) (acJ F a n d F i c 0) λ((j,k):(List Int)×(List Int))=>
  some (j,k)) λ((l,m):(List Int)×(List Int))=>
  sS F a n ey l m (ax (e+1))) (some (b,c))
def xO(F:Nat)(d:aU)(e:aR)(f:List Int):Option (List Int):=
 d_ (α:=(List Int)×(List Int)) (acI F f F [] [] 0) λ((a,b):(List Int)×(List Int))=>
 d_ (α:=(List Int)×(List Int)) (sS F d e F a b 0) λ((c,g):(List Int)×(List Int))=>
 some c
def Eo(F:Nat)(c:aU)(b:aR)(f:List Int)(a:aU)(d:List Int):Option (Bool):=
 (x3 F (⟨a.Words,a.au,a.aN,a.aX,a.aW,a.aV,a.Next⟩:aU) (⟨b.a8,b.aZ,b.Fields,b.Names,b.a1⟩:aR)).bind λ g=>
 cond (decide (g=0)) ((x1 F (⟨a.Words,a.au,a.aN,a.aX,a.aW,a.aV,a.Next⟩:aU) (⟨b.a8,b.aZ,b.Fields,b.Names,b.a1⟩:aR) d).bind λ h=>
 cond ((decide (h=0))&&(decide ((f.length:Int)=(d.length:Int)))) ((xO F (⟨c.Words,c.au,c.aN,c.aX,c.aW,c.aV,c.Next⟩:aU) (⟨b.a8,b.aZ,b.Fields,b.Names,b.a1⟩:aR) f).bind λ i=>
 (xO F (⟨a.Words,a.au,a.aN,a.aX,a.aW,a.aV,a.Next⟩:aU) (⟨b.a8,b.aZ,b.Fields,b.Names,b.a1⟩:aR) d).bind λ j=>
 (nE F i j).bind λ e=>
 some e) (some false)) (some false)
end I
namespace Go.Proofs.YteeliipnilghaaaGreat
open Go Go.RowKit aw I bc
@[reducible] noncomputable def ahv(F:Nat):hZ bq:=⟨[.p (.B 0),.p (.i .i64)],[.c 117 [.l 134,.M 1,.l 3],.m 9 3],[.p (.R 2)],[.c 117 [.l 134,.M 1,.l 3],.m 9 3,.r 136 false],List I.Field,
  λ d=>tW F ⟨d.2.1.1,d.2.2.1,d.2.1.2.2.1⟩ d.1.2.1,λ d r=>(((),()),((d.2.1.1,(),d.2.1.2.2.1,()),d.2.2.1,r,()))⟩
@[reducible] noncomputable def ahw(F:Nat):hZ bq:=⟨[.p (.B 0),.p (.i .i64)],[.c 117 [.l 134,.M 1,.l 3],.m 9 3],[.p (.R 2),.p (.R 3)],[.c 117 [.l 134,.M 1,.l 3],.m 9 3,.r 9 false,.r 166 false],List (List UInt8)×List I.Target,
  λ d=>CV F ⟨d.2.1.1,d.2.2.1,d.2.1.2.2.1⟩ d.1.2.1,λ d r=>(((),(),()),((d.2.1.1,(),d.2.1.2.2.1,()),d.2.2.1,r.1,r.2,()))⟩
noncomputable def LN(F:Nat):cO aE:=⟨(83,(ahv F).run aE)::(82,(ahw F).run aE)::aor.ce,[]⟩
end Go.Proofs.YteeliipnilghaaaGreat
namespace Go.Proofs.YteeliipnilghaaaGreat
open Go Go.RowKit aw
set_option maxHeartbeats 4000000
set_option maxRecDepth 20000
theorem adv{W:World}{X:List Nat}{F:Nat}{b:I.bs}{C:Int}{r:List Int}{k:Nat}{l:ix}{m:Nat}{n:Nat}{f:ix}{i:Nat}{M0:List Nat}(c:bw W M0 X W [] [bD.iX k [.q l m b.l,.map (some n),.q f i b.du],cr I.kl l m b.l,bD.map mN (Value.int .i64) n b.bZ,cr (e7 .i64) f i b.du])(h:I.r1 F b C=some r) :
 Calls Tryz.prog 114 [.dd k,.i C].toArray W (λ e w'=>∃q:Option Addr,∃s:Nat,∃t:List Value,e= .returned (.q q s r)/\bw W M0 X w' [ba.row 3 1 (.q q s r) r t] [bD.rows (e7 .i64) t r]):=by
 refine enter Tryz.func114 rfl Tryz.ntmps114 rfl λ a ad=>?_;rw[I.r1]at h;refine p7 [] [] ad λ a ad=>p7 [] [(5,.slice none 0 0)] ad λ a ad=>wp_seq_k λ K S=>?_;have c:=c.JT (α:=Int) 3 1;have c:=c.more (y:=bD.rows (e7 .i64) [] []) rfl;obtain⟨D,h,E⟩:=I.fM h
 refine Mj (λ a w=>∃(u:ix)(v:Nat)(j:En)(B:oQ),Fr ⟨20,[]⟩ [(5,.q u v j)] a/\bw W M0 X w [ba.row 3 1 (.q u v j) j B] [bD.rows (e7 .i64) B j,bD.iX k [.q l m b.l,.map (some n),.q f i b.du],cr I.kl l m b.l,bD.map mN (Value.int .i64) n b.bZ,cr (e7 .i64) f i b.du]/\D=j) (λ K vE=>?_) ?_
 ·clear E;refine SS (λ(P:Nat) a w=>∃(o:ix)(p:Nat)(g:En)(x:oQ)(d:Int),Fr ⟨20,[]⟩ [(0,.dd k),(1,.i d),(5,.q o p g)] a/\bw W M0 X w [ba.row 3 1 (.q o p g) g x] [bD.rows (e7 .i64) x g,bD.iX k [.q l m b.l,.map (some n),.q f i b.du],cr I.kl l m b.l,bD.map mN (Value.int .i64) n b.bZ,cr (e7 .i64) f i b.du]/\I.r2 b P g d=some D) F ⟨none,0,[],[],C,ad.cut,c,h⟩ ?_ ?_
  ·rintro a w ⟨o,p,g,x,d,ad,c,h⟩;exact absurd h (by simp[I.r2])
  rintro P a w ⟨o,p,g,x,d,ad,c,h⟩ K U;rw[I.r2]at h;refine wp_seq_k λ K V=>p7 [] [(7,.bool (decide (0<=d)))] ad λ a ad=>Ml (ad.g rfl) h (λ G h=>?_) (λ G h=>?_)
  ·refine wp_skip<|V _ _<|wp_seq_k λ K Y=>wp_block<|oY<|k0 2 [] [(15,.q o p g),(16,.i d)] ad λ a ad=>aiG (cs:=[.i d]) wn (D' (vs:=[(0,.i d)]) Tryz.underlying22 Tryz.sizeOf3 Tryz.zeroValue3 rfl rfl rfl ⟨⟨(ad.g rfl),rfl⟩,trivial⟩ (by kernel_rfl)) ad c rfl rfl λ a Z w _ ad c=>?_;obtain⟨Q,H,h⟩:=I.fM h;refine Ku (T:=(e7 .i64)) (ml:=[d]) 1 0 0 c rfl rfl rfl Tryz.underlying22 azM rfl rfl H rfl rfl ⟨_,_,rfl,rfl,rfl⟩ wn rfl (ad.g rfl) (ad.g rfl) ad rfl rfl λ a z A J w ad c=>?_
   refine k0 1 [] [(5,.q z A Q)] ad λ a ad=>wpList_nil (Y _ _ ?_);refine oY<|tc 5 [0,2] [(11,.q f i b.du),(12,.i d)] [k,2] (gZ (c.d 2 rfl).2.2 gz) ad λ a ad=>?_;obtain⟨R,L,h⟩:=I.fM h;obtain⟨M,N,_,rfl,O⟩:=Dm _ (c.d 5 rfl) L;refine fG wn (pO Tryz.underlying22 Tryz.sizeOf3 rfl (ad.g rfl) (ad.g rfl) M N) ad rfl rfl λ a ad=>tc 2 [0,0] [(1,.i R)] [dv f,fF f+(d).toNat*1] (gZ O gz) ad λ a ad=>wpList_nil ?_;exact U _ _ ⟨z,A,Q,J,R,ad.cut,c.hP [0,2,3,4,5],h⟩
  refine wp_exit<|sL (sL (Hh ?_));exact vE _ _ ⟨o,p,g,x,ad.cut,c,(os h)⟩
 rintro a w ⟨u,v,j,B,ad,c,aA⟩;subst D;have h:=E;clear E;refine S _ _<|KK [] [(4,.q u v j)] ad λ a ad=>wp_ret ?_;obtain rfl:=oi h;refine zG Tryz.results114 ad rfl ?_;exact⟨u,v,B,rfl,c.uy [0] [0]⟩
theorem adw{W:World}{X:List Nat}{s_:List Int}{r:Unit}{c:ix}{d:Nat}{M0:List Nat}(f:bw W M0 X W [] [cr (e7 .i64) c d s_])(h:I.Ky s_=some r) :
 Calls Tryz.prog 116 [.q c d s_].toArray W (λ e w'=>∃g:Nat,e= .returned (.func (.func 144) #[] #[.dd g])/\bw W M0 X w' [ba.cg g 22 [.q c d s_]] []):=by
 refine enter Tryz.func116 rfl Tryz.ntmps116 rfl λ a ad=>?_;clear h;refine wp_seq_k λ K i=>oY<|zw (cs:=[.q c d s_]) wn (Rz rfl rfl (ad.g rfl)) ad f rfl rfl λ a b w _ ad f=>k0 1 [] [] ad λ a ad=>wpList_nil (i _ _ ?_);refine KK [] [(2,.func (.func 144) #[] #[.dd b])] ad λ a ad=>wp_ret<|zG Tryz.results116 ad rfl ?_;exact⟨b,rfl,f.uy [0] []⟩
theorem adt:acD Tryz.prog 144:=by
 intro n d A c fi L w0 aj hy m;refine ava (vs:=[.func (.yield L) #[] #[],.dd fi]) Tryz.func144 rfl Tryz.ntmps144 rfl (by rintro w ⟨⟨v,h⟩,_⟩;cases h) ?_;intro a ad;obtain⟨W,M0,X,E,f⟩:=aj _ _ m;have g:d.length<=maxLen:=by
  obtain⟨cj,H,J,ak,aS,_⟩:=(f.d 1 rfl:(b3 (e7 .i64)).rd _ _ _ _)
  omega
 refine m' ?_;intro K o;refine pC (by kernel_rfl) ?_;refine hv 4 [0,1,3] [0,0] (fr':=[(0,.func (.yield L) #[] #[]),(1,.dd fi),(3,.i (I.ax ((d.length:Int)-1)))]) (L:=[fi,0]) rC (gZ (f.d 0 rfl).2.2 gz) ad (by kernel_rfl) ?_;intro a ad;rw[alx g]at ad;refine wpList_nil ?_;refine o _ _ ?_;refine aaw ?_;refine alO (λ k a w=>∃(rem:En),k=rem.length+1/\(∃pre,d=rem.reverse++pre)/\Fr ⟨19,[]⟩ [(0,.func (.yield L) #[] #[]),(1,.dd fi),(3,.i ((rem.length:Int)-1))] a/\n rem w) (d.length+1) ⟨d.reverse,by simp,⟨[],by simp⟩,by rw[lb];exact ad,m⟩ (by rintro a w ⟨rem,h,_⟩;omega) ?_;rintro k a w ⟨rem,j,⟨pre,i⟩,ad,b⟩ K p;refine m' ?_;intro q s;refine m' ?_;intro t u;refine pC (by kernel_rfl) ?_;refine hv 2 [0,1,3,8] [] (fr':=[(0,.func (.yield L) #[] #[]),(1,.dd fi),(3,.i ((rem.length:Int)-1)),(8,.bool (decide (0<=(rem.length:Int)-1)))]) (L:=[]) rC gz ad (by kernel_rfl) ?_;intro a ad;refine wpList_nil ?_;refine u _ _ ?_;refine aay (ad.g rfl) (λ af=>?_) (λ af=>?_)
 ·have af:=of_decide_eq_true af
  match rem,af,i,ad,b,j with
  |x::rem,_,i,ad,b,j=>
  have y:=azz i
  have e:((x::rem).length:Int)-1=(rem.length:Int):=by simp
  rw[e]at ad
  refine Qq ?_
  refine s _ _ ?_
  refine m' ?_
  intro z vE
  refine aaw ?_
  refine m' ?_
  intro B C
  refine aIr λ D=>?_
  refine aBZ 6 (by kernel_rfl) ?_
  obtain⟨W,M0,X,E,f⟩:=aj _ _ b
  refine hv 4 [0,1,3,11,12,13,14] [0,0] (fr':=[(0,.func (.yield L) #[] #[]),(1,.dd fi),(3,.i (rem.length:Int)),(11,.func (.yield L) #[] #[]),(12,.i (rem.length:Int)),(13,.q A c d),(14,.i (rem.length:Int))]) (L:=[fi,0]) rC (gZ (f.d 0 rfl).2.2 gz) ad (by kernel_rfl) ?_
  intro a ad
  obtain⟨F,hi,_,rfl,hc⟩:=Dm _ (f.d 1 rfl) y
  refine fG wn (pO Tryz.underlying22 Tryz.sizeOf3 rfl (ad.g rfl) (ad.g rfl) F hi) ad rfl rfl ?_
  intro a ad
  refine hv 1 [0,1,3,11,12,16] [0,0] (fr':=[(0,.func (.yield L) #[] #[]),(1,.dd fi),(3,.i (rem.length:Int)),(11,.func (.yield L) #[] #[]),(12,.i (rem.length:Int)),(16,.i x)]) (L:=[dv A,fF A+(rem.length:Int).toNat*1]) rC (gZ hc gz) ad (by kernel_rfl) ?_
  intro a ad
  refine wpList_nil ?_
  refine aLU (vs:=[.i (rem.length:Int),.i x]) wn rfl (ad.g rfl) ⟨ad.g rfl,ad.g rfl,trivial⟩ (hy x rem _ b) ad rfl rfl ?_
  rintro _ w ⟨rfl,b⟩
  refine⟨_,rfl,λ a ad=>?_⟩
  refine Oq D (by kernel_rfl) ?_
  refine hv 1 [0,1,3,18] [] (fr':=[(0,.func (.yield L) #[] #[]),(1,.dd fi),(3,.i (rem.length:Int)),(18,.bool false)]) (L:=[]) rC gz ad (by kernel_rfl) ?_
  intro a ad
  refine wpList_nil ?_
  refine C _ _ ?_
  refine aIq (ad.g rfl) rfl ?_
  refine Qq ?_
  refine vE _ _ ?_
  refine pC (by kernel_rfl) ?_
  refine hv 3 [0,1,3] [] (fr':=[(0,.func (.yield L) #[] #[]),(1,.dd fi),(3,.i (I.ax ((rem.length:Int)-1)))]) (L:=[]) rC gz ad (by kernel_rfl) ?_
  intro a ad
  have l:rem.length<=maxLen:=by
   have:=congrArg iv i;simp at this;omega
  rw[alx l]at ad
  refine wpList_nil ?_
  exact p _ _ ⟨rem,by simpa using j,⟨x::pre,by rw[i];simp⟩,ad,b⟩
 ·have af:=of_decide_eq_false af
  have G:rem=[]:=by
   cases rem with
   |nil=>rfl
   |cons x r=>exact absurd af (by simp)
  subst G
  refine aaz ?_
  refine sL ?_
  refine sL ?_
  refine Hh ?_
  refine asK ?_
  refine aFA Tryz.results144 ad ?_
  exact⟨⟨_,rfl⟩,b⟩
theorem atg{W:World}{X:List Nat}{F:Nat}{f:I.bs}{P:Int}{r:List I.Field}{o:Nat}{p:ix}{v:Nat}{Q:Nat}{R:ix}{S:Nat}{M0:List Nat}(d:bw W M0 X W [] [bD.iX o [.q p v f.l,.map (some Q),.q R S f.du],cr I.kl p v f.l,bD.map mN (Value.int .i64) Q f.bZ,cr (e7 .i64) R S f.du])(h:I.tW F f P=some r) :
 Calls Tryz.prog 83 [.dd o,.i P].toArray W (λ e w'=>∃x:Option Addr,∃z:Nat,∃B:List Value,e= .returned (.q x z r)/\bw W M0 X w' [ba.row 136 3 (.q x z r) r B] [bD.rows I.jo B r]):=by
 refine aev Tryz.func83 rfl Tryz.ntmps83 rfl λ a ad=>?_;rw[I.tW]at h;refine wp_seq_k λ K vD=>oY<|zw (cs:=[.dd o]) wn (Rz rfl rfl (ad.g rfl)) ad d rfl rfl λ a C w _ ad d=>k0 1 [] [] ad λ a ad=>wpList_nil (vD _ _ ?_);refine wp_seq_k λ K rF=>oY<|zw (cs:=[.slice none 0 0]) wn (AM Tryz.zeroValue124 rfl rfl) ad d rfl rfl λ a s w _ ad d=>wpList_nil<|rF _ _<|wp_seq_k λ K mD=>wp_seq_k λ K vE=>oY ?_
 refine tc 2 [0,0] [(8,.dd o),(9,.i P)] [C,0] (gZ (kZ (d.e 1 rfl)) gz) ad λ a ad=>?_;obtain⟨U,Z,h⟩:=I.fM h;have hc:=d;refine zN (vs:=[.dd o,.i P]) wn rfl Tryz.call114 ⟨(ad.g rfl),(ad.g rfl),trivial⟩ (adv ((hc.into 0).pick ⟨⟨0,rfl⟩,⟨1,rfl⟩,⟨2,rfl⟩,⟨3,rfl⟩,trivial⟩) Z) ad rfl rfl ?_;rintro _ w ⟨V,Y,aNo,rfl,t⟩;refine⟨_,rfl,λ a ad=>?_⟩;have d:=hc.back 0 t;clear t hc;obtain⟨Y',ayO,h⟩:=I.fM h;have hc:=d;have al:=hc.freeze 0 0 rfl rfl
 refine zN (vs:=[.q V Y U]) wn rfl Tryz.call116 ⟨(ad.g rfl),trivial⟩ (adw ((al.into 0).pick ⟨⟨0,rfl⟩,trivial⟩) ayO) ad rfl rfl ?_;rintro _ w ⟨D,rfl,t⟩;refine⟨_,rfl,λ a ad=>?_⟩;have k:bp [] _ w:=t.bW;have d:=hc.gj 0 (by exact trivial) t;clear t hc al;clear k;refine wpList_nil ?_;have ad:=ad.cut (l':=[(2,.dd C),(5,.dd s),(11,.func (.func 144) #[] #[.dd D])]);refine vE _ _<|wp_block ?_;have d:=d.freeze 1 0 rfl rfl;have d:=d.afE 0 rfl;have d:=d.JT (α:=I.Field) 136 3
 have d:=d.more (y:=bD.rows I.jo [] []) rfl;obtain⟨az0,VM,h⟩:=I.fM h
 refine ads (c:=Y) (A:=V) (β:=(Option Addr)×(Nat)×(List I.Field)×(List Value)) (l1:=λ _ u=>[(2,.dd C),(5,.dd s),(7,.i u)]) (λ((l,n,i,q):(Option Addr)×(Nat)×(List I.Field)×(List Value))=>[ba.row 136 3 (.q l n i) i q,ba.cg s 124 [.q l n i],ba.cg C 113 [.dd o]]) (λ((l,n,i,q):(Option Addr)×(Nat)×(List I.Field)×(List Value))=>[bD.rows I.jo q i,bD.iX D [.q V Y U],cr (e7 .i64) V Y U,bD.iX o [.q p v f.l,.map (some Q),.q R S f.du],cr I.kl p v f.l,bD.map mN (Value.int .i64) Q f.bZ,cr (e7 .i64) R S f.du]) (λ(PH:En)((l,n,i,q):(Option Addr)×(Nat)×(List I.Field)×(List Value))=>I.y2 f PH i=some az0) U (none,0,[],[]) 1 2 adt Tryz.call144 ad rfl rfl rfl (d.hP [0,1,2,4,5,6,7]) VM (λ b=>by obtain⟨_,_,_,_⟩:=b;rfl) (λ b=>by obtain⟨_,_,_,_⟩:=b;rfl) ?_ ?_ ?_
 ·clear h VM d ad;intro L azw u w a K ad b5;refine pC (by kernel_rfl)<|k0 1 [] [(7,.i u)] ad λ a ad=>wpList_nil ?_;exact b5 _ ad.cut
 ·clear h VM d ad;intro L g1 gN g2 dc b azw u PH w a K h ad d b5;obtain⟨l,n,i,q⟩:=b;dsimp only at h d;rw[I.y2]at h;refine aaw<|alN (m:=11) 9 (bp []) (by kernel_rfl) rfl (by kernel_rfl) λ w k=>?_;have d:=d.eV k;clear k;have g:=d;have j:=bp.refl [] w;refine ec [0,1,2,3,4,5] 6 [0,0,1,0,2,0] [(14,.q l n i),(18,.q p v f.l),(19,.i u)] [o,0,C,0,s,0] (λ dI k=>(gZ (E4 k (kZ (g.e 3 rfl))) (gZ (E4 k (kZ (g.e 4 rfl))) (gZ (E4 k (g.d 3 rfl).2.2) gz)))) ad j λ a ad=>?_;obtain⟨E,azn,h⟩:=I.fM h
  obtain⟨awJ,ax4,_,⟨RP,SN,G,H,rfl,J,M⟩,axu⟩:=Dm _ (g.d 4 rfl) azn;have g:=g.more (y:=cr I.jo RP SN E.Fields) J;have d:=d.more (y:=cr I.jo RP SN E.Fields) J;have g:=g.more (y:=cr I.qN G H E.bn) M;have d:=d.more (y:=cr I.qN G H E.bn) M;refine asE 6 rfl (by kernel_rfl) wn (λ dI=>pO Tryz.underlying25 Tryz.sizeOf134 rfl (ad.g rfl) (ad.g rfl) awJ ax4) j ad rfl rfl λ a ad=>?_
  refine ec [7,8] 2 [0,2] [(22,.q RP SN E.Fields)] [dv p,fF p+(u).toNat*4+2] (λ dI k=>(gZ (E4 k axu) gz)) ad j λ a ad=>mw 9 rfl (by kernel_rfl) (λ _=>j) ?_;obtain⟨Oi,ayg,h⟩:=I.fM h;refine aGZ (T:=I.jo) 2 2 1 d rfl rfl rfl Tryz.underlying124 azL rfl rfl ayg rfl wn rfl (ad.g rfl) (ad.g rfl) ad rfl rfl λ a N O aLl w ad d=>j7 ?_;clear g j;have g:=d;have j:=bp.refl [] w;refine ff.next 10 (bp [] w) (by kernel_rfl)<|mw 10 rfl (by kernel_rfl) (λ _=>j) ?_
  refine xa (vs:=[.q N O Oi]) 3 d rfl wn rfl Tryz.sizeOf124 rfl rfl rfl rfl (ad.g rfl) (ad.g rfl) rfl λ w d=>j7 ?_;clear g j;have g:=d;have j:=bp.refl [] w;refine ff.next 11 (bp [] w) (by kernel_rfl)<|L5 (by kernel_rfl) ?_ (λ _=>j);clear g j;have ad:=ad.cut (l':=[]);exact b5 (N,O,Oi,aLl) _ _ h (d.hP [0,4,5,6,7,8,9])
 clear d ad;intro aMq b a w VN ad d;obtain⟨l,n,i,q⟩:=b;dsimp only at VN d;rw[I.y2]at VN;obtain rfl:=oi VN;have ad:=ad.cut (l':=[(5,.dd s)]);refine mD _ _<|wp_seq_k λ K rG=>rg [0,0] [(4,.q l n i)] [s,0] (gZ (kZ (d.e 2 rfl)) gz) ad λ a ad=>rG _ _<|wp_ret ?_;obtain rfl:=oi h;refine aCd 0 Tryz.results83 ad d rfl rfl λ w d=>?_;exact⟨l,n,q,rfl,d.uy [1] [0]⟩
end Go.Proofs.YteeliipnilghaaaGreat
namespace Go.Proofs.YteeliipnilghaaaGreat
open Go Go.RowKit aw
set_option maxHeartbeats 4000000
set_option maxRecDepth 20000
theorem atk{W:World}{X:List Nat}{F:Nat}{s_:List (List UInt8)}{f:List UInt8}{r:Int}{d:ix}{g:Nat}{M0:List Nat}(c:bw W M0 X W [] [cr jn d g s_])(h:I.KI F s_ f=some r) :
 Calls Tryz.prog 117 [.q d g s_,ct f].toArray W (λ e w'=>e= .returned (.i r)/\bw W M0 X w' [] []):=by
 refine enter Tryz.func117 rfl Tryz.ntmps117 rfl λ a ad=>?_;rw[I.KI]at h;refine p7 [] [] ad λ a ad=>wp_seq_k λ K s=>p7 [] [(7,.i (s_.length:Int)),(8,.i 0)] ad λ a ad=>?_;obtain⟨i,h,j⟩:=I.aG4 h;refine Mj (λ a w=>Fr ⟨19,[]⟩ [] a/\bw W M0 X w [] [cr jn d g s_]/\i=(.go ())) (λ K vE=>?_) ?_
 ·refine SS (λ(q:Nat) a w=>∃(b:Int),Fr ⟨19,[]⟩ [(0,.q d g s_),(1,ct f),(7,.i (s_.length:Int)),(8,.i b)] a/\bw W M0 X w [] [cr jn d g s_]/\I.zY s_ f q b=some i) F ⟨0,ad.cut,c,h⟩ ?_ ?_
  ·rintro a w ⟨b,ad,c,h⟩;exact absurd h (by simp[I.zY])
  rintro q a w ⟨b,ad,c,h⟩ K t;rw[I.zY]at h;refine p7 [] [(9,.bool (decide (b<(s_.length:Int))))] ad λ a ad=>wp_seq_k λ K u=>Ml (ad.g rfl) h (λ k h=>?_) (λ k h=>?_)
  ·refine wp_skip<|u _ _<|wp_seq_k λ K v=>wp_block<|p7 [] [(5,.i b)] ad λ a ad=>wp_seq_k λ K x=>oY<|k0 3 [] [(11,ct f),(12,.q d g s_),(13,.i b)] ad λ a ad=>?_;obtain⟨y,l,h⟩:=I.fM h;obtain⟨m,n,_,rfl,o⟩:=Dm _ (c.d 0 rfl) l;refine fG wn (pO Tryz.underlying120 Tryz.sizeOf9 rfl (ad.g rfl) (ad.g rfl) m n) ad rfl rfl λ a ad=>tc 2 [0,0] [(16,.bool (decide (f=y)))] [dv d,fF d+(b).toNat*1] (gZ o gz) ad λ a ad=>wpList_nil (x _ _ ?_);refine Ml (ad.g rfl) h (λ p h=>?_) (λ p h=>?_)
   ·refine KK [] [(4,.i b)] ad λ a ad=>wp_ret ?_;obtain rfl:=oi h;obtain rfl:=oi j;refine anX (Rq (Rq (anX (Rq (Rq ?_)))));refine zG Tryz.results117 ad rfl ?_;exact⟨rfl,c.uy [] []⟩
   refine wp_skip<|v _ _<|adV [] [(8,.i (I.ax (b+1)))] ad λ a ad=>?_;exact t _ _ ⟨I.ax (b+1),ad.cut,c,h⟩
  refine wp_exit<|sL (sL (Hh ?_));exact vE _ _ ⟨ad.cut,c,(os h)⟩
 rintro a w ⟨ad,c,aA⟩;subst i;have h:=j;clear j;dsimp only[I.adF]at h;refine s _ _<|KK [] [(4,.i (-1))] ad λ a ad=>wp_ret ?_;obtain rfl:=oi h;refine zG Tryz.results117 ad rfl ?_;exact⟨rfl,c.uy [] []⟩
theorem ath{W:World}{X:List Nat}{F:Nat}{i:I.bs}{dr:Int}{r:(List (List UInt8))×(List I.Target)}{s:Nat}{t:ix}{z:Nat}{B:Nat}{C:ix}{D:Nat}{M0:List Nat}(d:bw W M0 X W [] [bD.iX s [.q t z i.l,.map (some B),.q C D i.du],cr I.kl t z i.l,bD.map mN (Value.int .i64) B i.bZ,cr (e7 .i64) C D i.du])(h:I.CV F i dr=some r) :
 Calls Tryz.prog 82 [.dd s,.i dr].toArray W (λ e w'=>∃acq:Option Addr,∃adm:Nat,∃an2:List Value,∃acr:Option Addr,∃adn:Nat,∃an3:List Value,e= .returned (.tuple #[.q acq adm r.1,.q acr adn r.2])/\bw W M0 X w' [ba.row 9 1 (.q acq adm r.1) r.1 an2,ba.row 166 2 (.q acr adn r.2) r.2 an3] [bD.rows jn an2 r.1,bD.rows I.km an3 r.2]):=by
 refine aev Tryz.func82 rfl Tryz.ntmps82 rfl λ a ad=>?_;rw[I.CV]at h;refine wp_seq_k λ K vD=>oY<|zw (cs:=[.dd s]) wn (Rz rfl rfl (ad.g rfl)) ad d rfl rfl λ a R w _ ad d=>k0 2 [] [] ad λ a ad=>wpList_nil (vD _ _ ?_);refine wp_seq_k λ K rF=>oY<|zw (cs:=[.slice none 0 0]) wn (AM Tryz.zeroValue120 rfl rfl) ad d rfl rfl λ a p w _ ad d=>wpList_nil<|rF _ _<|wp_seq_k λ K mD=>oY<|zw (cs:=[.slice none 0 0]) wn (AM Tryz.zeroValue121 rfl rfl) ad d rfl rfl λ a q w _ ad d=>wpList_nil ?_
 refine mD _ _<|wp_seq_k λ K vE=>wp_seq_k λ K rG=>oY<|tc 2 [0,0] [(14,.dd s),(15,.i dr)] [R,0] (gZ (kZ (d.e 2 rfl)) gz) ad λ a ad=>?_;obtain⟨E,ayN,h⟩:=I.fM h;have hc:=d;refine zN (vs:=[.dd s,.i dr]) wn rfl Tryz.call114 ⟨(ad.g rfl),(ad.g rfl),trivial⟩ (adv ((hc.into 0).pick ⟨⟨0,rfl⟩,⟨1,rfl⟩,⟨2,rfl⟩,⟨3,rfl⟩,trivial⟩) ayN) ad rfl rfl ?_;rintro _ w ⟨G,H,aNp,rfl,P⟩;refine⟨_,rfl,λ a ad=>?_⟩;have d:=hc.back 0 P;clear P hc;obtain⟨hR,ayP,h⟩:=I.fM h;have hc:=d
 have al:=hc.freeze 0 0 rfl rfl;refine zN (vs:=[.q G H E]) wn rfl Tryz.call116 ⟨(ad.g rfl),trivial⟩ (adw ((al.into 0).pick ⟨⟨0,rfl⟩,trivial⟩) ayP) ad rfl rfl ?_;rintro _ w ⟨E9,rfl,P⟩;refine⟨_,rfl,λ a ad=>?_⟩;have g:bp [] _ w:=P.bW;have d:=hc.gj 0 (by exact trivial) P;clear P hc al;clear g;refine wpList_nil ?_;have ad:=ad.cut (l':=[(2,.dd R),(6,.dd p),(7,.dd q),(17,.func (.func 144) #[] #[.dd E9])]);refine rG _ _<|wp_block ?_;have d:=d.freeze 1 0 rfl rfl
 have d:=d.afE 0 rfl;have d:=d.JT (α:=I.Target) 166 2;have d:=d.more (y:=bD.rows I.km [] []) rfl;have d:=d.JT (α:=List UInt8) 9 1;have d:=d.more (y:=bD.rows jn [] []) rfl;obtain⟨azZ,VK,h⟩:=I.fM h
 refine ads (c:=H) (A:=G) (β:=(Option Addr)×(Nat)×(List (List UInt8))×(List Value)×(Option Addr)×(Nat)×(List I.Target)×(List Value)) (l1:=λ _ l=>[(2,.dd R),(6,.dd p),(7,.dd q),(9,.i l)]) (λ((S,U,M,Y,V,vn,lk,Z):(Option Addr)×(Nat)×(List (List UInt8))×(List Value)×(Option Addr)×(Nat)×(List I.Target)×(List Value))=>[ba.row 9 1 (.q S U M) M Y,ba.row 166 2 (.q V vn lk) lk Z,ba.cg q 121 [.q V vn lk],ba.cg p 120 [.q S U M],ba.cg R 113 [.dd s]]) (λ((S,U,M,Y,V,vn,lk,Z):(Option Addr)×(Nat)×(List (List UInt8))×(List Value)×(Option Addr)×(Nat)×(List I.Target)×(List Value))=>[bD.rows jn Y M,bD.rows I.km Z lk,bD.iX E9 [.q G H E],cr (e7 .i64) G H E,bD.iX s [.q t z i.l,.map (some B),.q C D i.du],cr I.kl t z i.l,bD.map mN (Value.int .i64) B i.bZ,cr (e7 .i64) C D i.du]) (λ(PI:En)((S,U,M,Y,V,vn,lk,Z):(Option Addr)×(Nat)×(List (List UInt8))×(List Value)×(Option Addr)×(Nat)×(List I.Target)×(List Value))=>I.y7 F i PI M lk=some azZ) E (none,0,[],[],none,0,[],[]) 2 3 adt Tryz.call144 ad rfl rfl rfl (d.hP [0,0,2,3,5,6,7,8]) VK (λ b=>by obtain⟨_,_,_,_,_,_,_,_⟩:=b;rfl) (λ b=>by obtain⟨_,_,_,_,_,_,_,_⟩:=b;rfl) ?_ ?_ ?_
 ·clear h VK d ad;intro L azx l w a K ad b5;refine pC (by kernel_rfl)<|k0 1 [] [(9,.i l)] ad λ a ad=>wpList_nil ?_;exact b5 _ ad.cut
 ·clear h VK d ad;intro L g1 gN g2 dc b azx l PI w a K h ad d b5;obtain⟨S,U,M,Y,V,vn,lk,Z⟩:=b;dsimp only at h d;rw[I.y7]at h;obtain⟨ahk,h,VH⟩:=I.fM h
  refine aax (λ a w=>∃(LG:ix)(Mb:Nat)(wz:List (List UInt8))(Rt:oQ)(LH:ix)(Mc:Nat)(wA:List I.Target)(Ru:oQ),Fr ⟨59,[]⟩ [] a/\bw W M0 X w [ba.obj g1 gN,ba.obj g2 dc,ba.row 9 1 (.q LG Mb wz) wz Rt,ba.row 166 2 (.q LH Mc wA) wA Ru,ba.cg q 121 [.q LH Mc wA],ba.cg p 120 [.q LG Mb wz],ba.cg R 113 [.dd s]] [bD.rows jn Rt wz,bD.rows I.km Ru wA,bD.iX E9 [.q G H E],cr (e7 .i64) G H E,bD.iX s [.q t z i.l,.map (some B),.q C D i.du],cr I.kl t z i.l,bD.map mN (Value.int .i64) B i.bZ,cr (e7 .i64) C D i.du]/\ahk=(wz,wA)) (λ K Iw=>?_) ?_
  ·clear VH;refine m' λ K Ix=>pC (by kernel_rfl)<|tc 5 [0,0,1,0] [(23,.q t z i.l),(24,.i l)] [s,0,R,0] (gZ (kZ (d.e 6 rfl)) (gZ (d.d 4 rfl).2.2 gz)) ad λ a ad=>?_;obtain⟨o,azo,h⟩:=I.fM h;obtain⟨awI,ax3,_,⟨LI,Md,u,J,rfl,axD,axE⟩,axt⟩:=Dm _ (d.d 5 rfl) azo;have d:=d.more (y:=cr I.jo LI Md o.Fields) axD;have d:=d.more (y:=cr I.qN u J o.bn) axE;refine fG wn (pO Tryz.underlying25 Tryz.sizeOf134 rfl (ad.g rfl) (ad.g rfl) awI ax3) ad rfl rfl λ a ad=>?_
   refine tc 4 [0,3] [(27,.q u J o.bn),(28,.i (o.bn.length:Int)),(29,.i 0)] [dv t,fF t+(l).toNat*4+3] (gZ axt gz) ad λ a ad=>wpList_nil (Ix _ _ ?_);obtain⟨WK,h,VI⟩:=I.fM h
   refine aax (λ a w=>∃(LJ:ix)(Mf:Nat)(wB:List (List UInt8))(Rv:oQ)(LK:ix)(Mg:Nat)(wC:List I.Target)(Rw:oQ),Fr ⟨59,[]⟩ [] a/\bw W M0 X w [ba.obj g1 gN,ba.obj g2 dc,ba.row 9 1 (.q LJ Mf wB) wB Rv,ba.row 166 2 (.q LK Mg wC) wC Rw,ba.cg q 121 [.q LK Mg wC],ba.cg p 120 [.q LJ Mf wB],ba.cg R 113 [.dd s]] [bD.rows jn Rv wB,bD.rows I.km Rw wC,cr I.qN u J o.bn,cr I.jo LI Md o.Fields,bD.iX E9 [.q G H E],cr (e7 .i64) G H E,bD.iX s [.q t z i.l,.map (some B),.q C D i.du],cr I.kl t z i.l,bD.map mN (Value.int .i64) B i.bZ,cr (e7 .i64) C D i.du]/\WK=(wB,wC)) (λ K Iy=>?_) ?_
   ·clear VI
    refine alO (λ(ey:Nat) a w=>∃(N:ix)(rl:Nat)(v:List (List UInt8))(Hk:oQ)(xH:ix)(yf:Nat)(Q:List I.Target)(Lw:oQ)(j:Int),Fr ⟨59,[]⟩ [(6,.dd p),(7,.dd q),(9,.i l),(27,.q u J o.bn),(28,.i (o.bn.length:Int)),(29,.i j)] a/\bw W M0 X w [ba.obj g1 gN,ba.obj g2 dc,ba.row 9 1 (.q N rl v) v Hk,ba.row 166 2 (.q xH yf Q) Q Lw,ba.cg q 121 [.q xH yf Q],ba.cg p 120 [.q N rl v],ba.cg R 113 [.dd s]] [bD.rows jn Hk v,bD.rows I.km Lw Q,cr I.qN u J o.bn,cr I.jo LI Md o.Fields,bD.iX E9 [.q G H E],cr (e7 .i64) G H E,bD.iX s [.q t z i.l,.map (some B),.q C D i.du],cr I.kl t z i.l,bD.map mN (Value.int .i64) B i.bZ,cr (e7 .i64) C D i.du]/\I.y8 F l o ey v Q j=some WK) F ⟨S,U,M,Y,V,vn,lk,Z,0,ad.cut,d.hP [2,3,0,1,4,5,6,7,8,9],h⟩ ?_ ?_
    ·rintro a w ⟨N,rl,v,Hk,xH,yf,Q,Lw,j,ad,d,h⟩;exact absurd h (by simp[I.y8])
    rintro ey a w ⟨N,rl,v,Hk,xH,yf,Q,Lw,j,ad,d,h⟩ K Va;rw[I.y8]at h;refine m' λ K Iv=>pC (by kernel_rfl)<|k0 1 [] [(30,.bool (decide (j<(o.bn.length:Int))))] ad λ a ad=>wpList_nil (Iv _ _ ?_);refine m' λ K awS=>aay (ad.g rfl) (λ Vk=>?_) (λ Vk=>?_)
    ·have h:=I.S3 Vk h;refine Qq<|awS _ _<|m' λ K awT=>?_;obtain⟨ahl,h,VJ⟩:=I.fM h
     refine aax (λ a w=>∃(LL:ix)(Mh:Nat)(wD:List (List UInt8))(Rx:oQ)(LM:ix)(Mi:Nat)(wE:List I.Target)(Ry:oQ),Fr ⟨59,[]⟩ [(6,.dd p),(7,.dd q),(9,.i l),(27,.q u J o.bn),(28,.i (o.bn.length:Int)),(29,.i j)] a/\bw W M0 X w [ba.obj g1 gN,ba.obj g2 dc,ba.row 9 1 (.q LL Mh wD) wD Rx,ba.row 166 2 (.q LM Mi wE) wE Ry,ba.cg q 121 [.q LM Mi wE],ba.cg p 120 [.q LL Mh wD],ba.cg R 113 [.dd s]] [bD.rows jn Rx wD,bD.rows I.km Ry wE,cr I.qN u J o.bn,cr I.jo LI Md o.Fields,bD.iX E9 [.q G H E],cr (e7 .i64) G H E,bD.iX s [.q t z i.l,.map (some B),.q C D i.du],cr I.kl t z i.l,bD.map mN (Value.int .i64) B i.bZ,cr (e7 .i64) C D i.du]/\ahl=(wD,wE)) (λ K Ng=>?_) ?_
     ·clear VJ;refine m' λ K awU=>pC (by kernel_rfl)<|k0 1 [] [(31,.i j)] ad λ a ad=>?_;obtain⟨n,azp,h⟩:=I.fM h;obtain⟨awK,ax5,_,⟨RQ,SP,RR,SQ,rfl,axF,axG⟩,axv⟩:=Dm _ (d.d 2 rfl) azp;have d:=d.more (y:=cr I.Dt RQ SP n.cA) axF;have d:=d.more (y:=cr I.Ds RR SQ n.cG) axG;refine fG wn (pO Tryz.underlying132 Tryz.sizeOf131 rfl (ad.g rfl) (ad.g rfl) awK ax5) ad rfl rfl λ a ad=>?_
      refine tc 1 [0,0] [(33,.agg #[ct n.Name,.bool n.Static,.q RQ SP n.cA,.i n.Returns.Kind,ct n.Returns.ao,.i n.hE,.i n.hC,ct n.Code,.q RR SQ n.cG])] [dv u,fF u+(j).toNat*9] (gZ axv gz) ad λ a ad=>zw (cs:=[ct [],.bool false,.slice none 0 0,.i 0,ct [],.i 0,.i 0,ct [],.slice none 0 0]) wn (AM Tryz.zeroValue131 rfl rfl) ad d rfl rfl λ a T_ w _ ad d=>k0 1 [] [(10,.i j)] ad λ a ad=>?_
      refine xa (vs:=[ct n.Name,.bool n.Static,.q RQ SP n.cA,.i n.Returns.Kind,ct n.Returns.ao,.i n.hE,.i n.hC,ct n.Code,.q RR SQ n.cG]) 0 d rfl wn rfl Tryz.sizeOf131 rfl rfl rfl rfl (ad.g rfl) (ad.g rfl) rfl λ w d=>wpList_nil<|awU _ _<|m' λ K awV=>pC (by kernel_rfl)<|k0 2 [] [(34,.i l),(35,.i j)] ad λ a ad=>?_
      refine fG wn (aLr (vs:=[(0,.i l),(1,.i j)]) (cs:=[.i l,.i j]) Tryz.zeroValue166 Tryz.underlying166 aDJ rfl ⟨⟨(ad.g rfl),rfl⟩,⟨(ad.g rfl),rfl⟩,trivial⟩ (by kernel_rfl)) ad rfl rfl λ a ad=>zw (cs:=[.i 0,.i 0]) wn (AM Tryz.zeroValue166 rfl rfl) ad d rfl rfl λ a T' w _ ad d=>xa (vs:=[.i l,.i j]) 0 d rfl wn rfl Tryz.sizeOf166 rfl rfl rfl rfl (ad.g rfl) (ad.g rfl) rfl λ w d=>wpList_nil ?_
      have ad:=ad.cut (l':=[(6,.dd p),(7,.dd q),(9,.i l),(11,.dd T_),(12,.dd T'),(27,.q u J o.bn),(28,.i (o.bn.length:Int)),(29,.i j)]);refine awV _ _<|m' λ K awW=>m' λ K awX=>pC (by kernel_rfl)<|tc 3 [0,0,1,0] [(37,.q N rl v),(39,ct n.Name)] [T_,0,p,0] (gZ (kZ (d.e 7 rfl)) (gZ (kZ (d.e 1 rfl)) gz)) ad λ a ad=>?_;obtain⟨Dk,ayQ,h⟩:=I.fM h;have hc:=d;have al:=hc.freeze 4 2 rfl rfl
      refine zN (vs:=[.q N rl v,ct n.Name]) wn rfl Tryz.call117 ⟨(ad.g rfl),(ad.g rfl),trivial⟩ (atk ((al.into 0).pick ⟨⟨0,rfl⟩,trivial⟩) ayQ) ad rfl rfl ?_;rintro _ w ⟨rfl,P⟩;refine⟨_,rfl,λ a ad=>?_⟩;have g:bp [] _ w:=P.bW;have d:=hc.gj 0 (by exact trivial) P;clear P hc al;clear g;refine k0 1 [] [(13,.i Dk)] ad λ a ad=>wpList_nil (awX _ _ ?_);refine m' λ K awY=>pC (by kernel_rfl)<|k0 2 [] [(42,.bool (decide (0<=Dk)))] ad λ a ad=>wpList_nil (awY _ _ ?_);refine aay (ad.g rfl) (λ Vl=>?_) (λ Vl=>?_)
      ·have h:=I.S3 Vl h;refine m' λ K awZ=>pC (by kernel_rfl)<|tc 3 [0,0,1,0] [(43,.q xH yf Q),(44,.i Dk),(45,.agg #[.i l,.i j])] [T',0,q,0] (gZ (kZ (d.e 6 rfl)) (gZ (kZ (d.e 0 rfl)) gz)) ad λ a ad=>?_;obtain⟨abM,ag3,h⟩:=I.fM h;obtain⟨awL,ax6,_,rfl,axw⟩:=aGu (d.e 5 rfl) (d.d 3 rfl) ag3;refine fG wn (pO Tryz.underlying121 Tryz.sizeOf166 rfl (ad.g rfl) (ad.g rfl) awL ax6) ad rfl rfl λ a ad=>?_;obtain⟨W3,aye,h⟩:=I.fM h
       refine aHi (T:=I.km) (d':=(⟨l,j⟩:I.Target)) (vs:=[.i l,.i j]) (cs0:=[.i abM.ao,.i abM.Method]) (kk:=0) 5 3 aye d rfl rfl ag3 rfl axw wn rfl Tryz.sizeOf166 rfl rfl rfl rfl rfl (ad.g rfl) (ad.g rfl) rfl λ aLj w O g d=>?_;try unfold Value.q at d;try unfold Value.q at ad;rw[O]at d;try rw[O]at ad;clear O;clear g;refine wpList_nil ?_;have ad:=ad.cut (l':=[(6,.dd p),(7,.dd q),(9,.i l),(27,.q u J o.bn),(28,.i (o.bn.length:Int)),(29,.i j)]);refine awZ _ _<|aaz<|sL (Hh ?_)
       exact Ng _ _ ⟨N,rl,v,Hk,xH,yf,W3,aLj,ad.cut,d.uy [2,3,4,5,6,7,8] [3,0,5,6,7,8,9,10,11,12],(os h)⟩
      have h:=I.S2 Vl h;refine Qq<|awW _ _<|alN (m:=11) 8 (bp (Value.q N rl v).ownBlock.toList) (by kernel_rfl) rfl (by kernel_rfl) λ w g=>?_;have d:=d.eV g;clear g;have k:=d;have f:=bp.refl (Value.q N rl v).ownBlock.toList w
      refine ec [0,1,2,5,6] 5 [0,0,1,0,2,0,3,0] [(47,.q N rl v),(49,ct n.Name),(52,.q xH yf Q),(53,.agg #[.i l,.i j])] [T',0,q,0,T_,0,p,0] (λ dI g=>(gZ (MK g (k.O5 7 4 rfl rfl (by decide)) (HV (k.e 7 rfl)) (kZ (k.e 7 rfl))) (gZ (MK g (k.O5 1 4 rfl rfl (by decide)) (HV (k.e 1 rfl)) (kZ (k.e 1 rfl))) (gZ (MK g (k.O5 6 4 rfl rfl (by decide)) (HV (k.e 6 rfl)) (kZ (k.e 6 rfl))) (gZ (MK g (k.O5 0 4 rfl rfl (by decide)) (HV (k.e 0 rfl)) (kZ (k.e 0 rfl))) gz))))) ad f λ a ad=>acV 3 7 rfl rfl (by kernel_rfl) (λ _=>f) ?_ ?_
      ·refine JU (cs:=[ct n.Name]) wn (D' (vs:=[(0,ct n.Name)]) Tryz.underlying120 Tryz.sizeOf9 Tryz.zeroValue9 rfl rfl rfl ⟨⟨(ad.g rfl),rfl⟩,trivial⟩ (by kernel_rfl)) ad d rfl rfl λ a awt w g IK ad d=>?_;have IK:=gJ f.size IK;have f:=f.trans g (by simp);clear g;refine j7<|acV 4 7 rfl rfl (by kernel_rfl) (λ _=>f) ?_ ?_
       ·obtain⟨Oh,ayf,h⟩:=I.fM h;refine ZO (T:=jn) (ml:=[n.Name]) 5 0 2 d rfl rfl rfl Tryz.underlying120 Wu rfl rfl ayf rfl rfl ⟨_,_,rfl,rfl,rfl⟩ wn rfl (ad.g rfl) (ad.g rfl) ad rfl rfl λ a acp adl aLk w g ad d=>?_;have f:=f.trans g (λ x aa=>.inl aa);clear g;refine j7<|mw 7 rfl (by kernel_rfl) (λ _=>f)<|JU (cs:=[.i l,.i j]) wn (D' (vs:=[(0,.agg #[.i l,.i j])]) Tryz.underlying121 Tryz.sizeOf166 Tryz.zeroValue166 rfl rfl rfl ⟨⟨(ad.g rfl),rfl⟩,trivial⟩ (by kernel_rfl)) ad d rfl rfl λ a aMo w g agw ad d=>?_;have agw:=gJ f.size agw;have f:=f.trans g (by simp);clear g;refine j7 ?_
        refine mw 8 rfl (by kernel_rfl) (λ _=>f) ?_;obtain⟨tS,I3,h⟩:=I.fM h;refine Ku (T:=I.km) (ml:=[(⟨l,j⟩:I.Target)]) 6 0 4 d rfl rfl rfl Tryz.underlying121 Wt rfl rfl I3 rfl rfl ⟨_,_,rfl,rfl,rfl⟩ wn rfl (ad.g rfl) (ad.g rfl) ad rfl rfl λ a xI yg Lx w ad d=>j7 ?_;clear k f;have k:=d;have f:=bp.refl [] w;refine ff.next 9 (bp [] w) (by kernel_rfl)<|mw 9 rfl (by kernel_rfl) (λ _=>f)<|xa (vs:=[.q acp adl Oh]) 7 d rfl wn rfl Tryz.sizeOf120 rfl rfl rfl rfl (ad.g rfl) (ad.g rfl) rfl λ w d=>j7 ?_;clear k f;have k:=d
        have f:=bp.refl [] w;refine ff.next 10 (bp [] w) (by kernel_rfl)<|mw 10 rfl (by kernel_rfl) (λ _=>f)<|xa (vs:=[.q xI yg tS]) 6 d rfl wn rfl Tryz.sizeOf121 rfl rfl rfl rfl (ad.g rfl) (ad.g rfl) rfl λ w d=>j7 ?_;clear k f;have k:=d;have f:=bp.refl [] w;refine ff.next 11 (bp [] w) (by kernel_rfl)<|L5 (by kernel_rfl) ?_ (λ _=>f);clear k f;have ad:=ad.cut (l':=[(6,.dd p),(7,.dd q),(9,.i l),(27,.q u J o.bn),(28,.i (o.bn.length:Int)),(29,.i j)])
        exact Ng _ _ ⟨acp,adl,Oh,aLk,xI,yg,tS,Lx,ad.cut,d.uy [2,3,4,5,6,7,8] [1,0,6,7,8,9,10,11,12,13],(os h)⟩
       refine JU (cs:=[.i l,.i j]) wn (D' (vs:=[(0,.agg #[.i l,.i j])]) Tryz.underlying121 Tryz.sizeOf166 Tryz.zeroValue166 rfl rfl rfl ⟨⟨(ad.g rfl),rfl⟩,trivial⟩ (by kernel_rfl)) ad d rfl rfl λ a awu w g IL ad d=>?_;have IL:=gJ f.size IL;have f:=f.trans g (by simp);clear g;refine j7<|mw 4 rfl (by kernel_rfl) (λ _=>f) ?_;obtain⟨Jz,VP,h⟩:=I.fM h;refine ZO (T:=jn) (ml:=[n.Name]) 6 1 2 d rfl rfl rfl Tryz.underlying120 Wu rfl rfl VP rfl rfl ⟨_,_,rfl,rfl,rfl⟩ wn rfl (ad.g rfl) (ad.g rfl) ad rfl rfl λ a Hs HZ ab2 w g ad d=>?_;have f:=f.trans g (λ x aa=>.inl aa);clear g;refine j7 ?_
       refine mw 8 rfl (by kernel_rfl) (λ _=>f) ?_;obtain⟨tS,I3,h⟩:=I.fM h;refine Ku (T:=I.km) (ml:=[(⟨l,j⟩:I.Target)]) 6 0 4 d rfl rfl rfl Tryz.underlying121 Wt rfl rfl I3 rfl rfl ⟨_,_,rfl,rfl,rfl⟩ wn rfl (ad.g rfl) (ad.g rfl) ad rfl rfl λ a xI yg Lx w ad d=>j7 ?_;clear k f;have k:=d;have f:=bp.refl [] w;refine ff.next 9 (bp [] w) (by kernel_rfl)<|mw 9 rfl (by kernel_rfl) (λ _=>f)<|xa (vs:=[.q Hs HZ Jz]) 7 d rfl wn rfl Tryz.sizeOf120 rfl rfl rfl rfl (ad.g rfl) (ad.g rfl) rfl λ w d=>j7 ?_;clear k f;have k:=d
       have f:=bp.refl [] w;refine ff.next 10 (bp [] w) (by kernel_rfl)<|mw 10 rfl (by kernel_rfl) (λ _=>f)<|xa (vs:=[.q xI yg tS]) 6 d rfl wn rfl Tryz.sizeOf121 rfl rfl rfl rfl (ad.g rfl) (ad.g rfl) rfl λ w d=>j7 ?_;clear k f;have k:=d;have f:=bp.refl [] w;refine ff.next 11 (bp [] w) (by kernel_rfl)<|L5 (by kernel_rfl) ?_ (λ _=>f);clear k f;have ad:=ad.cut (l':=[(6,.dd p),(7,.dd q),(9,.i l),(27,.q u J o.bn),(28,.i (o.bn.length:Int)),(29,.i j)])
       exact Ng _ _ ⟨Hs,HZ,Jz,ab2,xI,yg,tS,Lx,ad.cut,d.uy [2,3,4,5,6,7,8] [1,0,6,7,8,9,10,11,12,13],(os h)⟩
      refine JU (cs:=[.i l,.i j]) wn (D' (vs:=[(0,.agg #[.i l,.i j])]) Tryz.underlying121 Tryz.sizeOf166 Tryz.zeroValue166 rfl rfl rfl ⟨⟨(ad.g rfl),rfl⟩,trivial⟩ (by kernel_rfl)) ad d rfl rfl λ a awt w g IK ad d=>?_;have IK:=gJ f.size IK;have f:=f.trans g (by simp);clear g;refine j7<|mw 3 rfl (by kernel_rfl) (λ _=>f)<|JU (cs:=[ct n.Name]) wn (D' (vs:=[(0,ct n.Name)]) Tryz.underlying120 Tryz.sizeOf9 Tryz.zeroValue9 rfl rfl rfl ⟨⟨(ad.g rfl),rfl⟩,trivial⟩ (by kernel_rfl)) ad d rfl rfl λ a awu w g IL ad d=>?_;have IL:=gJ f.size IL;have f:=f.trans g (by simp);clear g;refine j7 ?_
      refine mw 4 rfl (by kernel_rfl) (λ _=>f) ?_;obtain⟨Jz,VP,h⟩:=I.fM h;refine ZO (T:=jn) (ml:=[n.Name]) 6 0 2 d rfl rfl rfl Tryz.underlying120 Wu rfl rfl VP rfl rfl ⟨_,_,rfl,rfl,rfl⟩ wn rfl (ad.g rfl) (ad.g rfl) ad rfl rfl λ a Hs HZ ab2 w g ad d=>?_;have f:=f.trans g (λ x aa=>.inl aa);clear g;refine j7<|mw 8 rfl (by kernel_rfl) (λ _=>f) ?_;obtain⟨tS,I3,h⟩:=I.fM h;refine Ku (T:=I.km) (ml:=[(⟨l,j⟩:I.Target)]) 6 0 4 d rfl rfl rfl Tryz.underlying121 Wt rfl rfl I3 rfl rfl ⟨_,_,rfl,rfl,rfl⟩ wn rfl (ad.g rfl) (ad.g rfl) ad rfl rfl λ a xI yg Lx w ad d=>j7 ?_
      clear k f;have k:=d;have f:=bp.refl [] w;refine ff.next 9 (bp [] w) (by kernel_rfl)<|mw 9 rfl (by kernel_rfl) (λ _=>f)<|xa (vs:=[.q Hs HZ Jz]) 7 d rfl wn rfl Tryz.sizeOf120 rfl rfl rfl rfl (ad.g rfl) (ad.g rfl) rfl λ w d=>j7 ?_;clear k f;have k:=d;have f:=bp.refl [] w;refine ff.next 10 (bp [] w) (by kernel_rfl)<|mw 10 rfl (by kernel_rfl) (λ _=>f)<|xa (vs:=[.q xI yg tS]) 6 d rfl wn rfl Tryz.sizeOf121 rfl rfl rfl rfl (ad.g rfl) (ad.g rfl) rfl λ w d=>j7 ?_;clear k f
      have k:=d;have f:=bp.refl [] w;refine ff.next 11 (bp [] w) (by kernel_rfl)<|L5 (by kernel_rfl) ?_ (λ _=>f);clear k f;have ad:=ad.cut (l':=[(6,.dd p),(7,.dd q),(9,.i l),(27,.q u J o.bn),(28,.i (o.bn.length:Int)),(29,.i j)]);exact Ng _ _ ⟨Hs,HZ,Jz,ab2,xI,yg,tS,Lx,ad.cut,d.uy [2,3,4,5,6,7,8] [1,0,6,7,8,9,10,11,12,13],(os h)⟩
     rintro a w ⟨LL,Mh,wD,Rx,LM,Mi,wE,Ry,ad,d,aA⟩;subst ahl;have h:=VJ;clear VJ;dsimp only at h;refine awT _ _<|pC (by kernel_rfl)<|k0 2 [] [(29,.i (I.ax (j+1)))] ad λ a ad=>wpList_nil ?_;exact Va _ _ ⟨LL,Mh,wD,Rx,LM,Mi,wE,Ry,I.ax (j+1),ad.cut,d,h⟩
    have h:=I.S2 Vk h;refine aaz<|sL (sL (Hh ?_));exact Iy _ _ ⟨N,rl,v,Hk,xH,yf,Q,Lw,ad.cut,d,(os h)⟩
   rintro a w ⟨LJ,Mf,wB,Rv,LK,Mg,wC,Rw,ad,d,aA⟩;subst WK;have h:=VI;clear VI;dsimp only at h;exact Iw _ _ ⟨LJ,Mf,wB,Rv,LK,Mg,wC,Rw,ad.cut,d.hP [0,1,4,5,6,7,8,9],(os h)⟩
  rintro a w ⟨LG,Mb,wz,Rt,LH,Mc,wA,Ru,ad,d,aA⟩;subst ahk;have h:=VH;clear VH;dsimp only at h;exact b5 (LG,Mb,wz,Rt,LH,Mc,wA,Ru) _ _ h (d)
 clear d ad;intro aMp b a w VL ad d;obtain⟨S,U,M,Y,V,vn,lk,Z⟩:=b;dsimp only at VL d;rw[I.y7]at VL;obtain rfl:=oi VL;have ad:=ad.cut (l':=[(6,.dd p),(7,.dd q)]);dsimp only at h;refine vE _ _<|wp_seq_k λ K aw0=>atj (by kernel_rfl) (by kernel_rfl)<|aEh 4 [0,0,1,0] [(4,.q S U M),(5,.q V vn lk)] [q,0,p,0] (λ dI g=>(gZ (E4 g (kZ (d.e 4 rfl))) (gZ (E4 g (kZ (d.e 3 rfl))) gz))) ad λ a ad=>wpQuiet_nil λ w g=>?_;have d:=d.eV g;clear g;refine aw0 _ _<|wp_ret ?_
 obtain rfl:=oi h;refine aCe 0 Tryz.results82 ad d rfl rfl rfl λ w d=>?_;exact⟨S,U,Y,V,vn,Z,rfl,d.uy [1,2] [0,1]⟩
end Go.Proofs.YteeliipnilghaaaGreat
namespace Go.Proofs.YteeliipnilghaaaGreat
open Go Go.RowKit aw I bc
section
variable{F:Nat->Prop}{w:World}
theorem asT{cs:List Value}{d:I.Kind}(h:(bq.ty 128).rd F w cs d):I.Dt.rd F w cs d:=by
 change e4 (λ t=>(fC ME t).ty) F w [.i .i64,.s] cs (d.Kind,d.ao,())at h;obtain⟨_,_,rfl,rfl,_,_,rfl,rfl,rfl⟩:=h;rfl
theorem asS{cs:List Value}{d:I.Handler}(h:(bq.ty 157).rd F w cs d):I.Ds.rd F w cs d:=by
 change e4 (λ t=>(fC MC t).ty) F w [.i .i64,.i .i64,.i .i64,.s] cs (d.From,d.To,d.At,d.ao,())at h;obtain⟨_,_,rfl,rfl,_,_,rfl,rfl,_,_,rfl,rfl,_,_,rfl,rfl,rfl⟩:=h;rfl
theorem asR{cs:List Value}{d:I.Field}(h:(bq.ty 136).rd F w cs d):I.jo.rd F w cs d:=by
 change e4 (λ t=>(fC H_ t).ty) F w [.s,.i .i64,.s] cs (d.Name,d.Kind.Kind,d.Kind.ao,())at h;obtain⟨_,_,rfl,rfl,_,_,rfl,rfl,_,_,rfl,rfl,rfl⟩:=h;rfl
theorem asU{cs:List Value}{d:I.Method}(h:(bq.ty 131).rd F w cs d):I.qN.rd F w cs d:=by
 change e4 (λ t=>(fC MF t).ty) F w [.s,.b,.l 128,.i .i64,.s,.i .i64,.i .i64,.s,.l 157] cs (d.Name,d.Static,d.cA,d.Returns.Kind,d.Returns.ao,d.hE,d.hC,d.Code,d.cG,())at h;obtain⟨_,_,rfl,rfl,_,_,rfl,rfl,_,_,rfl,a,_,_,rfl,rfl,_,_,rfl,rfl,_,_,rfl,rfl,_,_,rfl,rfl,_,_,rfl,rfl,_,_,rfl,J,rfl⟩:=h;have a:(b3 (bq.ty 128)).rd F w [_] d.cA:=a;have J:(b3 (bq.ty 157)).rd F w [_] d.cG:=J;obtain⟨A,c,rfl⟩:=l_ _ a;obtain⟨cj,b,rfl⟩:=l_ _ J;exact⟨A,c,cj,b,rfl,jl (λ _ _=>asT) a,jl (λ _ _=>asS) J⟩
theorem asQ{cs:List Value}{d:I.ao}(h:(bq.ty 134).rd F w cs d):I.kl.rd F w cs d:=by
 change e4 (λ t=>(fC MD t).ty) F w [.s,.s,.l 136,.l 131] cs (d.Name,d.cX,d.Fields,d.bn,())at h;obtain⟨_,_,rfl,rfl,_,_,rfl,rfl,_,_,rfl,a,_,_,rfl,J,rfl⟩:=h;have a:(b3 (bq.ty 136)).rd F w [_] d.Fields:=a;have J:(b3 (bq.ty 131)).rd F w [_] d.bn:=J;obtain⟨A,c,rfl⟩:=l_ _ a;obtain⟨cj,b,rfl⟩:=l_ _ J;exact⟨A,c,cj,b,rfl,jl (λ _ _=>asR) a,jl (λ _ _=>asU) J⟩
theorem adh{cs:List Value}{d:Int}(h:(bq.ty 3).rd F w cs d):cs=[.int .i64 d]:=by
 change e4 (λ t=>(fC E1 t).ty) F w [.i .i64] cs (d,())at h;obtain⟨_,_,rfl,rfl,rfl⟩:=h;rfl
theorem aFD{F':Nat->Prop}{cs:List Value}{d:I.Field}(h:I.jo.rd F w cs d):(bq.ty 136).rd F' w cs d:=by
 change cs=_ at h;subst h;change e4 (λ t=>(fC H_ t).ty) F' w [.s,.i .i64,.s] _ (d.Name,d.Kind.Kind,d.Kind.ao,());exact⟨_,_,rfl,rfl,_,_,rfl,rfl,_,_,rfl,rfl,rfl⟩
theorem aFF{F':Nat->Prop}{cs:List Value}{d:I.Target}(h:I.km.rd F w cs d):(bq.ty 166).rd F' w cs d:=by
 change cs=_ at h;subst h;change e4 (λ t=>(fC MG t).ty) F' w [.i .i64,.i .i64] _ (d.ao,d.Method,());exact⟨_,_,rfl,rfl,_,_,rfl,rfl,rfl⟩
theorem aFE{F':Nat->Prop}{cs:List Value}{d:List UInt8}(h:jn.rd F w cs d):(bq.ty 9).rd F' w cs d:=by
 change cs=_ at h;subst h;change e4 (λ t=>(fC MH t).ty) F' w [.s] _ (d,());exact⟨_,_,rfl,rfl,rfl⟩
theorem avb{es:List MapEntry}{d:List (List UInt8×Int)}(h: @jA bq F w 9 3 Jw es d):R' mN (Value.int .i64) es d:=by
 induction es generalizing d with
 |nil=>cases d with
  |nil=>rfl
  |cons p d=>exact h.elim
 |cons e es a=>cases d with
  |nil=>exact h.elim
  |cons p d=>
   obtain⟨b,⟨xs,J,ap⟩,c⟩:=h
   have J:=adh J
   subst J
   have:=a c
   unfold R' at this⊢
   rw[eu,eu,this]
   rw[show e.val= .int .i64 p.2 from ap,show e.key=mN.enc p.1 from b]
abbrev y'(cs:List I.ao)(bZ:List (List UInt8×Int))(jm:List Int):List (aD bq.El):=[.c 117 [.s 134 (cs:List (bq.El 134)),.m 1,.s 3 (jm:List (bq.El 3))],.m 9 3 (bZ:List (bq.El 9×bq.El 3))]
theorem ah9{W:World}{M0:List Nat}{X:Nat->Prop}{ρ vs:List Value}{cs:List I.ao}{bZ:List (List UInt8×Int)}{jm:List Int}{n:Int}
 (d:Mem bq W M0 X (y' cs bZ jm) ρ w)(o:a7 bq (bi X (y' cs bZ jm) ρ w) w ρ (y' cs bZ jm) [.b 0 0,.p (.int .i64 n)] vs) :
 ∃g A c r cj a,vs=[.pointer (some ⟨g,0,none⟩),.int .i64 n]/\bw w [] [] w [] [bD.iX g [.slice A cs.length c,.map (some r),.slice cj jm.length a],cr I.kl A c cs,bD.map mN (Value.int .i64) r bZ,cr (e7 .i64) cj a jm]:=by
 have H:=d.len
 obtain⟨J,p⟩:=d.rY (i:=0) rfl
 obtain⟨L,Fs⟩:=d.rY (i:=1) rfl
 have b0:=d.ok 0 _ _ rfl p
 have C:=d.ok 1 _ _ rfl Fs
 obtain⟨g,us,rfl,q,s⟩:=b0
 obtain⟨r,rfl,K,D,es,cl,u,E,G,af⟩:=C
 simp only[a7,ar]at s o
 obtain⟨M,_,rfl,e,N,_,rfl,⟨O,v,rfl⟩,P,_,rfl,f,rfl⟩:=s
 obtain⟨_,_,rfl,⟨g',x,rfl⟩,_,_,rfl,rfl,rfl⟩:=o
 rw[p]at x
 rw[Fs]at v
 cases x
 cases v
 obtain⟨A,c,rfl⟩:=l_ _ e
 obtain⟨cj,a,rfl⟩:=l_ _ f
 have z:∀k,bi X (y' cs bZ jm) ρ w k->ib [] w k/\w.heap[k]? =w.heap[k]? :=λ k j=>⟨⟨by simp,j.2.2⟩,rfl⟩
 have l:(cr I.kl A c cs).ok [] w:=jl (λ _ _=>asQ) ((b3 (bq.ty 134)).law z e)
 have m:(cr (e7 .i64) cj a jm).ok [] w:=jl (λ _ _=>adh) ((b3 (bq.ty 3)).law z f)
 have B:∀k b,w.heap[k]? =some b->k<w.heap.size:=λ k b j=>by
  rcases gg k w.heap.size with h |h
  ·exact h
  ·rw[hJ h]at j;cases j
 obtain rfl:Jw=K:=ei D
 refine⟨g,A,c,r,cj,a,rfl,bw.start [] [] w [] _ (by simp) (by simp[bX]) (by simp) (by simp[bX]) λ y hy=>?_⟩
 simp only[cR,h4,or_false]at hy
 rcases hy with rfl |rfl |rfl |rfl
 ·exact⟨by simp[bX],B _ _ q,kZ (t:=117) (cs:=[.slice A cs.length c,.map (some r),.slice cj jm.length a]) q⟩
 ·exact l
 ·exact⟨by simp[bX],B _ _ u,es,cl,u,avb E,G,af⟩
 ·exact m
end
theorem at0(F:Nat):(ahv F).hI.AU aE 83:=by
 intro da db eS h W M0 X ρ w vs a b;obtain⟨⟨⟩,n,⟨⟩⟩:=da;obtain⟨⟨cs,⟨⟩,jm,⟨⟩⟩,bZ,⟨⟩⟩:=db;have h:dV _ (I.tW F ⟨cs,bZ,jm⟩ n)=some eS:=h;obtain⟨r,d,rfl⟩:=cu.1 h;have a:Mem bq W M0 X (y' cs bZ jm) ρ w:=a;obtain⟨g,A,c,q,cj,p,rfl,aj⟩:=ah9 a b;refine⟨⟨.ret (.r 2 0),y' cs bZ jm++[.r 136 0 0 (r:List (bq.El 136))],[]⟩,by kernel_rfl,?_⟩;refine(atg aj d).mono λ e w' ⟨s,c1,xs,f,cc⟩=>?_;obtain⟨i,j⟩:=a.st1 cc (t:=136) rfl λ _ _ _ l _=>aFD l;refine⟨_,i,j,λ k m _=>cc.bW.block k m (by simp),?_⟩;subst f;have o:ρ.length=2:=a.len;exact⟨trivial,_,by rw[fI (by omega),o];rfl,cC _,λ _=>rfl⟩
theorem at1(F:Nat):(ahw F).hI.AU aE 82:=by
 intro da db eS h W M0 X ρ w vs a f;obtain⟨⟨⟩,n,⟨⟩⟩:=da;obtain⟨⟨cs,⟨⟩,jm,⟨⟩⟩,bZ,⟨⟩⟩:=db;have h:dV _ (I.CV F ⟨cs,bZ,jm⟩ n)=some eS:=h;obtain⟨r,i,rfl⟩:=cu.1 h;have a:Mem bq W M0 X (y' cs bZ jm) ρ w:=a;obtain⟨g,A,c,q,cj,p,rfl,aj⟩:=ah9 a f;refine⟨⟨.ret (.u [.r 2 0,.r 3 0]),y' cs bZ jm++[.r 9 0 0 (r.1 :List (bq.El 9)),.r 166 0 0 (r.2 :List (bq.El 166))],[]⟩,by kernel_rfl,?_⟩;refine(ath aj i).mono λ e w' ⟨s,c1,xs,u,c2,ys,j,cc⟩=>?_;obtain⟨l,m⟩:=a.st2 cc (t:=9) (t':=166) rfl (λ _ _ _ b _=>aFE b) rfl λ _ _ _ b _=>aFF b;refine⟨_,l,m,λ k o _=>cc.bW.block k o (by simp),?_⟩;subst j;have d:ρ.length=2:=a.len;refine⟨_,rfl,_,_,rfl,⟨trivial,_,by rw[fI (by omega),d];rfl,cC _,λ _=>rfl⟩,_,_,rfl,⟨trivial,_,by rw[fI (by omega),d];rfl,cC _,λ _=>rfl⟩,rfl⟩
theorem asI:iR.Ok:=⟨⟨λ g h e=>(by cases e),λ g h e=>(by cases e)⟩,λ g fn c _ _ _=>tU (λ _=>rfl) c⟩
theorem as9(F:Nat):(LN F).Ok:=
 ((aDq jG (aDp jG (aDo jG (aDn jG (aDm jG asI))))).oW (f:=82) (by kernel_rfl) λ ys bl r a=>Mr (at1 F) ys bl r (zK a)).oW (f:=83) (by kernel_rfl) λ ys bl r a=>Mr (at0 F) ys bl r (zK a)
end Go.Proofs.YteeliipnilghaaaGreat
namespace bc
open Go Go.RowKit aw I
section
variable{El:Nat->Type}
def L_(bl:List (aD El)):aH El->Option (aH El)
 | .p u=>some (.p u)
 | .s t l=>some (.s t l)
 | .q t l=>some (.s t l)
 | .r i g=>match nth bl i with
   |some (.r t a _ l)=>match bS g a with
    |true=>some (.s t l)
    |false=>none
   |_=>none
 |_=>none
def HW(bl:List (aD El)):List (aH El)->Option (List (aH El))
 |[]=>some []
 |y::r=>match L_ bl y,HW bl r with
  |some e9,some a=>some (e9::a)
  |_,_=>none
def SL(bl:List (aD El)):aH El->Option (aH El)
 | .a cs=>(HW bl cs).map .a
 |y=>L_ bl y
def HX(bl:List (aD El)):List (aH El)->Option (List (aH El))
 |[]=>some []
 |y::r=>match SL bl y,HX bl r with
  |some e9,some a=>some (e9::a)
  |_,_=>none
def ahh:List (aH El)->Bool
 |[]=>false
 | .r _ _::_=>true
 |_::r=>ahh r
def WA:List (aH El)->Bool
 |[]=>false
 | .r _ _::_=>true
 | .a cs::r=>ahh cs||WA r
 |_::r=>WA r
def SM(g:List (aH El)->List (aD El)->D (fg El))(ys:List (aH El))(bl:List (aD El)):D (fg El):=match WA ys,HX bl ys with
 |true,some a=>(g a []).bind λ r=>match r.e with
  | .ret (.p u)=>.ok ⟨.ret (.p u),bl,[]⟩
  |_=>.no
 |_,_=>g ys bl
end
section
variable{T:bR}{W w:World}{M0:List Nat}{X:Nat->Prop}{bl:List (aD T.El)}{ρ:List Value}
theorem ade(e:Mem T W M0 X bl ρ w){y e9:aH T.El}{v:Value}(h:L_ bl y=some e9)(a:ar T (bi X bl ρ w) w ρ bl y v):ar T (bi (λ _=>False) ([]:List (aD T.El)) [] w) w [] [] e9 v:=by
 have c:∀ {b:List (aD T.El)}{k:Nat},bi X b ρ w k->bi (λ _=>False) ([]:List (aD T.El)) [] w k/\w.heap[k]? =w.heap[k]? :=λ f=>⟨⟨λ h=>h,λ⟨i,B,u,d,J,_⟩=>by simp at J,f.2.2⟩,rfl⟩
 unfold L_ at h;split at h
 ·cases h;simp only[ar]at a⊢;exact a
 ·cases h;simp only[ar]at a⊢;exact(b3 _).law (λ k=>c) a
 ·cases h;simp only[ar]at a⊢;exact(b3 _).law (λ k=>c) a.1
 ·rename_i i g
  split at h
  ·rename_i t j k l hi
   rw[c7]at hi
   split at h
   ·rename_i af
    have af:=bd af
    cases h
    simp only[ar]at a⊢
    obtain⟨_,u,d,_,ap⟩:=a
    rw[hi]at ap
    obtain rfl:=ap af
    have m:=(e.freeze hi).1.ok i (.z t j k l) _ (fH (aO.1 hi).1) d
    exact(b3 (T.ty t)).law (λ k=>c) (m:(b3 (T.ty t)).rd _ w [_] l)
   ·cases h
  ·cases h
 ·cases h
theorem adf(c:Mem T W M0 X bl ρ w):∀ {ys a:List (aH T.El)}{vs:List Value},HW bl ys=some a->a7 T (bi X bl ρ w) w ρ bl ys vs->a7 T (bi (λ _=>False) ([]:List (aD T.El)) [] w) w [] [] a vs
 |[],a,vs,h,b=>by
  simp only[HW,aF]at h;subst h;simpa only[a7]using b
 |y::r,a,vs,h,b=>by
  simp only[HW]at h;split at h
  ·rename_i i j d J
   cases h
   simp only[a7]at b⊢
   obtain⟨u,us,e,f,g⟩:=b
   exact⟨u,us,e,ade c d f,adf c J g⟩
  ·cases h
theorem asP(b:Mem T W M0 X bl ρ w){y e9:aH T.El}{v:Value}(h:SL bl y=some e9)(a:ar T (bi X bl ρ w) w ρ bl y v):ar T (bi (λ _=>False) ([]:List (aD T.El)) [] w) w [] [] e9 v:=by
 unfold SL at h;split at h
 ·rename_i cs
  obtain⟨d,c,rfl⟩:=cu.1 h
  simp only[ar]at a⊢
  obtain⟨vs,e,a⟩:=a
  exact⟨vs,e,adf b c a⟩
 ·exact ade b h a
theorem adg(c:Mem T W M0 X bl ρ w):∀ {ys a:List (aH T.El)}{vs:List Value},HX bl ys=some a->a7 T (bi X bl ρ w) w ρ bl ys vs->a7 T (bi (λ _=>False) ([]:List (aD T.El)) [] w) w [] [] a vs
 |[],a,vs,h,b=>by
  simp only[HX,aF]at h;subst h;simpa only[a7]using b
 |y::r,a,vs,h,b=>by
  simp only[HX]at h;split at h
  ·rename_i i j d J
   cases h
   simp only[a7]at b⊢
   obtain⟨u,us,e,f,g⟩:=b
   exact⟨u,us,e,asP c d f,adg c J g⟩
  ·cases h
end
section
variable{E:Env}{f:Nat}{t:cO E}
theorem atw(l:E.cQ=[]){g:List (aH E.T.El)->List (aD E.T.El)->D (fg E.T.El)}(hc:j3 E f g):j3 E f (SM g):=by
 intro ys bl r c W M0 X ρ w vs h d j;unfold SM at c;split at c
 ·rename_i m _ af
  obtain⟨e3,n,a⟩:=D.jR c
  split at a
  ·rename_i u o
   have a:(⟨.ret (.p u),bl,[]⟩:fg E.T.El)=r:=a
   subst a
   refine(hc m [] e3 n w [] (λ _=>False) [] w vs (aij w) (λ g y d=>by rw[l]at d;simp[cD]at d) (adg h af j)).mono λ e w' ⟨ρ',i,_,_,b⟩=>?_
   refine⟨ρ,h.eV i.bW,Mem.su i.bW,λ k p _=>i.bW.block k p (by simp),?_⟩
   rw[o]at b
   cases e with
   |returned v=>
    simp only[BF,ar]at b⊢
    exact b
   |panicked yi=>exact b.elim
   |outgrown=>exact b.elim
  ·exact a.elim
 ·exact hc ys bl r c W M0 X ρ w vs h d j
noncomputable def cO.BW(t:cO E)(f:Nat):cO E:=t.f f (SM (t.bt f))
theorem cO.Ok.BW(a6:c8 E)(a:E.cQ=[])(h:t.Ok){f:Nat}(ad:e2 E.cb f=true):(t.BW f).Ok:=
 h.oW ad (atw a λ ys bl r b=>((k1 a6 h.ce h.le 100).ok f ys bl r b).2)
end
end bc
namespace bc
open Go Go.RowKit aw I
structure aP (E:Env) where
 t:cO E
 ok:c8 E->t.Ok
 cQ:E.cQ=[]
section
variable{E:Env}
noncomputable def aP.rt(s:aP E)(f:Nat)(c:hZ E.T)(a:c.Eq E s.t.bt s.t.LE f)(ad:e2 E.cb f=true:=by kernel_rfl):aP E:=⟨s.t.f f (c.run E),λ h=>(s.ok h).rt h s.cQ ad a,s.cQ⟩
noncomputable def aP.vy(s:aP E)(f:Nat)(c:hZ E.T)(a:c.Eq E s.t.bt s.t.LE f)(ad:e2 E.cb f=true:=by kernel_rfl):aP E:=⟨s.t.vy f c,λ h=>(s.ok h).awc h s.cQ ad a,s.cQ⟩
noncomputable def aP.PO(s:aP E)(f:Nat)(c:rc E.T)(a:c.Eq E s.t.bt s.t.LE f)(ad:e2 E.cb f=true:=by kernel_rfl):aP E:=⟨s.t.f f (c.run E),λ h=>(s.ok h).PO h s.cQ ad a,s.cQ⟩
noncomputable def aP.fn(s:aP E)(f:Nat)(c:ej E.T)(a:c.Eq E s.t.bt s.t.LE f)(ad:e2 E.cb f=true:=by kernel_rfl):aP E:=⟨s.t.f f (c.run E),λ h=>(s.ok h).fn h s.cQ ad a,s.cQ⟩
noncomputable def aP.iV(s:aP E)(f:Nat)(c:kq E.T)(a:c.Eq E s.t.bt s.t.LE f)(ad:e2 E.cb f=true:=by kernel_rfl):aP E:=⟨s.t.f f (c.run E),λ h=>(s.ok h).iV h s.cQ ad a,s.cQ⟩
noncomputable def aP.E5(s:aP E)(f:Nat)(c:ej E.T)(a:c.Eq E s.t.bt s.t.LE f)(ad:e2 E.cb f=true:=by kernel_rfl):aP E:=⟨s.t.E5 f c,λ h=>(s.ok h).awa h s.cQ ad a,s.cQ⟩
noncomputable def aP.BW(s:aP E)(f:Nat)(ad:e2 E.cb f=true:=by kernel_rfl):aP E:=⟨s.t.BW f,λ h=>(s.ok h).BW h s.cQ ad,s.cQ⟩
noncomputable def aP.add(s:aP E)(f:Nat)(r:List (aH E.T.El)->List (aD E.T.El)->D (fg E.T.El))(hc:j3 E f r)(ad:e2 E.cb f=true:=by kernel_rfl):aP E:=⟨s.t.f f r,λ h=>(s.ok h).oW ad hc,s.cQ⟩
noncomputable def aP.ajd(s:aP E)(g i:Nat)(r:eG E.T.El->D (b6 E.T.El))(x y:Code)(a:c8 E->g∈E.cb->xS E ⟨fl E.P g,[]⟩ r x y)(b:Dd E.P g i=some (x,y):=by kernel_rfl):aP E:=⟨s.t.l g (1000000+i) r,λ h=>(s.ok h).asD b (a h),s.cQ⟩
noncomputable def aP.bY(s:aP E)(g i F:Nat)(c:bL E.T)(a:c.tT.nC E s.t.bt (s.t.LE g) (fl E.P g) i (hg E.P g i))(b:oj E.P g i=true:=by kernel_rfl):aP E:=⟨s.t.l g i (c.run E F),λ h=>(s.ok h).bY h s.cQ b a F,s.cQ⟩
noncomputable def aP.JK(s:aP E)(g i F:Nat)(c:bL E.T)(a:c.tT.nC E s.t.bt (s.t.LE g) (fl E.P g) i (hg E.P g i))(b:oj E.P g i=true:=by kernel_rfl):aP E:=⟨s.t.JK g i c F,λ h=>(s.ok h).aB9 h s.cQ b a F,s.cQ⟩
noncomputable def aP.fR(s:aP E)(g i F:Nat)(c:fo E.T)(a:c.Eq E s.t.bt (s.t.LE g) (fl E.P g) i (hg E.P g i))(b:oj E.P g i=true:=by kernel_rfl):aP E:=⟨s.t.l g i (c.run E F),λ h=>(s.ok h).fR h s.cQ b a F,s.cQ⟩
noncomputable def aP.Oj(s:aP E)(g i F:Nat)(c:fo E.T)(a:c.Eq E s.t.bt (s.t.LE g) (fl E.P g) i (hg E.P g i))(b:oj E.P g i=true:=by kernel_rfl):aP E:=⟨s.t.Oj g i c F,λ h=>(s.ok h).aB8 h s.cQ b a F,s.cQ⟩
end
end bc
