/- Part 4 of the proof that is ended in the last text: small logic, what the functions compute, walks, plain laws. -/
import Derived.Test.YteeliipnilghaaaGreatGc3
import Derived.Test.YteeliipnilghaaaGreatChecked
import Derived.KernelRfl
open Array renaming getElem?_eq_none->hA
open Bool renaming and_eq_true->bC,not_eq_true'->ga
open List renaming cons.injEq->hh,flatMap_cons->ig,getElem?_append_right->fs,getElem?_eq_some_iff->aM,getElem?_set_self->ff,length->h4,length_reverse->kq,map_cons->eu,mem_append_left->j3,mem_cons->cm,mem_flatMap->ho,mem_singleton->dK,nodup_append->eK,not_mem_nil->hR,range->dy
open Nat renaming beq->bP,decEq->kS,eq_of_beq_eq_true->a_,le_refl->cu,le_trans->gm,lt_or_ge->fN
open Option renaming bind->dB,map->dh,map_eq_some_iff->cd,some.inj->dT,some.injEq->aD
namespace a8
open Go Go.RowKit aq I
structure h2 (T:bN) where
 pas:List cD
 pbs:List bF
 eo:List cD
 c9:List bF
 R:Type
 fn:dd T.El pas×cx T.El pbs->Option R
 nH:dd T.El pas×cx T.El pbs->R->dd T.El eo×cx T.El c9
def h2.hL{T:bN}(c:h2 T):ed T:=⟨c.pas,c.pbs,c.eo,c.c9,λ d=>(c.fn d).map (c.nH d)⟩
def h2.run(E:Env)(c:h2 E.T)(ys:List (aF E.T.El))(bl:List (aC E.T.El)):D (fj E.T.El):=match gx [] c.pas c.pbs bl ys with
 |(bO,cE)=>match jV c.pbs c.c9,im bO [] false c.pas c.pbs cE with
  |true,some (d,sel)=>.op (c.fn d) λ r=>.ok ⟨.ret (qD (f_ (iL sel bO.length) (fm bO sel c.c9) c.eo (c.nH d r).1)),gf bO sel c.c9 (c.nH d r).2,sel⟩
  |_,_=>.no
def h2.atz{T:bN}(c:h2 T)(d:dd T.El c.pas×cx T.El c.pbs)(r:c.R):dd T.El c.eo×cx T.El c.c9:=c.nH d r
def h2.Eq(E:Env)(br:fc E)(LE:k0 E)(f:Nat)(c:h2 E.T):Prop:=∀(da:dd E.T.El c.pas)(db:cx E.T.El c.pbs),(nQ E br LE f (f_ id (b6 false c.pbs) c.pas da) (bJ id (b6 false c.pbs) false c.pbs db)).run c.hL.fin=(c.fn (da,db)).map (c.atz (da,db))
structure gv (T:bN) (pas:List cD) (pbs:List bF) where
 w:j'
 R:Type
 nH:dd T.El pas×cx T.El pbs->R->yx T.El w
@[reducible] def H0{T:bN}{pas:List cD}{pbs:List bF}:List (gv T pas pbs)->Type
  |[]=>Empty
  |[w]=>w.R
  |w::v::r=>w.R⊕H0 (v::r)
@[reducible] def Hg{T:bN}{pas:List cD}{pbs:List bF}:List (gv T pas pbs)->List j'
  |[]=>[]
  |w::r=>w.w::Hg r
def bQ{T:bN}{pas:List cD}{pbs:List bF}(d:dd T.El pas×cx T.El pbs):(ws:List (gv T pas pbs))->H0 ws->yy T.El (Hg ws)
 |[],r=>r.elim
 |[w],r=>w.nH d r
 |w::v::ws,r=>match r with
  | .inl a=>.inl (w.nH d a)
  | .inr b=>.inr (bQ d (v::ws) b)
structure bI (T:bN) where
 ss:List Nat
 pas:List cD
 pbs:List bF
 ws:List (gv T pas pbs)
 fn:Nat->dd T.El pas×cx T.El pbs->Option (H0 ws)
def bI.ub{T:bN}(c:bI T):fu T:=⟨c.ss,c.pas,c.pbs,Hg c.ws,λ k d=>(c.fn k d).map λ r=>bQ d c.ws r⟩
def X2(E:Env){pas:List cD}{pbs:List bF}(bl:List (aC E.T.El))(sel us:List Nat)(d:dd E.T.El pas×cx E.T.El pbs):(ws:List (gv E.T pas pbs))->Option (H0 ws)->D (b2 E.T.El)
 |[],_=>.no
 |[w],o=>.op o λ r=>PH E bl sel us w.w (w.nH d r)
 |w::v::ws,o=>.uM o (λ r=>PH E bl sel us w.w (w.nH d r)) (λ q=>X2 E bl sel us d (v::ws) (some q))
def bI.run(E:Env)(F:Nat)(c:bI E.T)(s:eB E.T.El):D (b2 E.T.El):=match pj E s.bl s.f [] (c.ss.map .tmp)with
 |some ys=>match gx [] c.pas c.pbs s.bl ys with
  |(bO,cE)=>match GD c.pbs (Hg c.ws)&&(jV c.pbs c.pbs&&st c.pbs c.pbs),im bO [] false c.pas c.pbs cE with
   |true,some (d,sel)=>X2 E bO sel s.ws d c.ws (c.fn F d)
   |_,_=>.no
 |none=>.no
noncomputable def cK.wh{E:Env}(t:cK E)(g:Nat)(c:h2 E.T):cK E:=t.f g λ ys bl=>match c.hL.fit E ys bl with
 |true=>c.run E ys bl
 |false=>t.br g ys bl
noncomputable def cK.J8{E:Env}(t:cK E)(g i:Nat)(c:bI E.T)(F:Nat):cK E:=t.l g i λ s=>match c.ub.fit E s with
 |true=>c.run E F s
 |false=>match t.LE g i with
  |some h=>h s
  |none=>.no
structure Ff (T:bN) (pas:List cD) (pbs:List bF) where
 w:mz
 R:Type
 nH:dd T.El pas×cx T.El pbs->R->EW T.El w
@[reducible] def HZ{T:bN}{pas:List cD}{pbs:List bF}:List (Ff T pas pbs)->Type
  |[]=>Empty
  |[w]=>w.R
  |w::v::r=>w.R⊕HZ (v::r)
@[reducible] def KP{T:bN}{pas:List cD}{pbs:List bF}:List (Ff T pas pbs)->List mz
  |[]=>[]
  |w::r=>w.w::KP r
def Fy{T:bN}{pas:List cD}{pbs:List bF}(d:dd T.El pas×cx T.El pbs):(ws:List (Ff T pas pbs))->HZ ws->yw T.El (KP ws)
 |[],r=>r.elim
 |[w],r=>w.nH d r
 |w::v::ws,r=>match r with
  | .inl a=>.inl (w.nH d a)
  | .inr b=>.inr (Fy d (v::ws) b)
structure ru (T:bN) where
 pas:List cD
 pbs:List bF
 ws:List (Ff T pas pbs)
 fn:dd T.El pas×cx T.El pbs->Option (HZ ws)
def ru.iY{T:bN}(c:ru T):kv T:=⟨c.pas,c.pbs,KP c.ws,λ d=>(c.fn d).map λ r=>Fy d c.ws r⟩
def Zn(E:Env){pas:List cD}{pbs:List bF}(bl:List (aC E.T.El))(sel:List Nat)(d:dd E.T.El pas×cx E.T.El pbs):(ws:List (Ff E.T pas pbs))->Option (HZ ws)->D (fj E.T.El)
 |[],_=>.no
 |[w],o=>.op o λ r=>KL E bl sel w.w (w.nH d r)
 |w::v::ws,o=>.uM o (λ r=>KL E bl sel w.w (w.nH d r)) (λ q=>Zn E bl sel d (v::ws) (some q))
def ru.run(E:Env)(c:ru E.T)(ys:List (aF E.T.El))(bl:List (aC E.T.El)):D (fj E.T.El):=match gx [] c.pas c.pbs bl ys with
 |(bO,cE)=>match Kl c.pbs (KP c.ws),im bO [] false c.pas c.pbs cE with
  |true,some (d,sel)=>Zn E bO sel d c.ws (c.fn d)
  |_,_=>.no
def ru.Eq(E:Env)(br:fc E)(LE:k0 E)(f:Nat)(c:ru E.T):Prop:=∀(da:dd E.T.El c.pas)(db:cx E.T.El c.pbs),(nQ E br LE f (f_ id (b6 false c.pbs) c.pas da) (bJ id (b6 false c.pbs) false c.pbs db)).run c.iY.fin=(c.fn (da,db)).map λ r=>Fy (da,db) c.ws r
def mg(T:bN)(t bV:Nat):h2 T:=⟨[.p (.l t)],[],[.p (.R 0)],[.r t false],List (T.El t),λ d=>bD bV [] d.1.1,λ _ r=>(((),()),(r,()))⟩
section
variable{E:Env}{t:cK E}
theorem AB{c:h2 E.T}{ys:List (aF E.T.El)}{bl:List (aC E.T.El)}{r:fj E.T.El}(h:(c.run E ys bl).out r):(c.hL.run E ys bl).out r:=by
 unfold h2.run at h;unfold ed.run h2.hL;dsimp only;cases ad:gx [] c.pas c.pbs bl ys with
 |mk bO cE=>
 rw[ad]at h;dsimp only at h⊢;split at h
 ·rename_i a J
  rw[a,J]
  obtain⟨q,e1,e2⟩:=h
  exact⟨_,by rw[e1];rfl,e2⟩
 ·exact h.elim
theorem ajc{pas:List cD}{pbs:List bF}{bl:List (aC E.T.El)}{sel us:List Nat}{d:dd E.T.El pas×cx E.T.El pbs}:∀ {ws:List (gv E.T pas pbs)}{o:Option (H0 ws)}{r:b2 E.T.El},(X2 E bl sel us d ws o).out r->(GR E bl sel us (Hg ws) (o.map (bQ d ws))).out r
 |[],o,r,h=>h.elim
 |[w],o,r,h=>by
  obtain⟨q,e1,e2⟩:=h;exact⟨_,by rw[e1];rfl,e2⟩
 |w::v::ws,o,r,h=>by
  rcases h with⟨q,e1,e2⟩|⟨q,e1,e2⟩
  ·exact .inl ⟨_,by rw[e1];rfl,e2⟩
  ·exact .inr ⟨_,by rw[e1];rfl,ajc e2⟩
theorem ahU{c:bI E.T}{F:Nat}{s:eB E.T.El}{r:b2 E.T.El}(h:(c.run E F s).out r):(c.ub.run E F s).out r:=by
 unfold bI.run at h;unfold fu.run bI.ub;dsimp only at h⊢;cases hy:pj E s.bl s.f [] (c.ss.map .tmp)with
 |none=>rw[hy]at h;exact h.elim
 |some ys=>
  rw[hy]at h
  dsimp only at h⊢
  cases ad:gx [] c.pas c.pbs s.bl ys with
  |mk bO cE=>
  rw[ad]at h
  dsimp only at h⊢
  cases a:GD c.pbs (Hg c.ws)&&(jV c.pbs c.pbs&&st c.pbs c.pbs)with
  |false=>rw[a]at h;exact h.elim
  |true=>
   cases J:im bO [] false c.pas c.pbs cE with
   |none=>rw[a,J]at h;exact h.elim
   |some ds=>rw[a,J]at h;exact ajc h
theorem ajU{pas:List cD}{pbs:List bF}{bl:List (aC E.T.El)}{sel:List Nat}{d:dd E.T.El pas×cx E.T.El pbs}:∀ {ws:List (Ff E.T pas pbs)}{o:Option (HZ ws)}{r:fj E.T.El},(Zn E bl sel d ws o).out r->(G1 E bl sel (KP ws) (o.map λ r=>Fy d ws r)).out r
 |[],o,r,h=>h.elim
 |[w],o,r,h=>by
  obtain⟨q,e1,e2⟩:=h;exact⟨_,by rw[e1];rfl,e2⟩
 |w::v::ws,o,r,h=>by
  rcases h with⟨q,e1,e2⟩|⟨q,e1,e2⟩
  ·exact .inl ⟨_,by rw[e1];rfl,e2⟩
  ·exact .inr ⟨_,by rw[e1];rfl,ajU e2⟩
theorem aGi{c:ru E.T}{ys:List (aF E.T.El)}{bl:List (aC E.T.El)}{r:fj E.T.El}(h:(c.run E ys bl).out r):(c.iY.run E ys bl).out r:=by
 unfold ru.run at h;unfold kv.run ru.iY;dsimp only;cases ad:gx [] c.pas c.pbs bl ys with
 |mk bO cE=>
 rw[ad]at h;dsimp only at h⊢;split at h
 ·rename_i a J
  rw[a,J]
  exact ajU h
 ·exact h.elim
theorem cK.Ok.P6(aZ:cX E)(a:E.cM=[])(h:t.Ok){f:Nat}(ad:eX E.b7 f=true){c:ru E.T}(b:c.Eq E t.br t.LE f):(t.f f (c.run E)).Ok:=
 h.oT ad λ ys bl r d=>ads aZ (k6 aZ h.ce h.le 100) h.le a (c:=c.iY) (λ da db _ e=>(b da db).trans e) ys bl r (aGi d)
theorem cK.Ok.rt(aZ:cX E)(a:E.cM=[])(h:t.Ok){f:Nat}(ad:eX E.b7 f=true){c:h2 E.T}(b:c.Eq E t.br t.LE f):(t.f f (c.run E)).Ok:=
 h.oT ad λ ys bl r d=>Fw aZ (k6 aZ h.ce h.le 100) h.le a (c:=c.hL) (ed.Eq.v b) ys bl r (AB d)
theorem cK.Ok.bU(aZ:cX E)(b:E.cM=[])(h:t.Ok){g i:Nat}(a:oh E.P g i=true){c:bI E.T}(d:c.ub.nC E t.br (t.LE g) (fp E.P g) i (hn E.P g i))(F:Nat):(t.l g i (c.run E F)).Ok:=
 h.Mq aZ a λ e s r f=>h.NC aZ b a d F e s r (ahU f)
theorem cK.Ok.avV(aZ:cX E)(b:E.cM=[])(h:t.Ok){f:Nat}(ad:eX E.b7 f=true){c:h2 E.T}(d:c.Eq E t.br t.LE f):(t.wh f c).Ok:=by
 refine h.oT ad λ ys bl r a=>?_;split at a
 ·exact Fw aZ (k6 aZ h.ce h.le 100) h.le b (c:=c.hL) (ed.Eq.v d) ys bl r (AB a)
 ·exact((k6 aZ h.ce h.le 100).ok f ys bl r a).2
theorem cK.Ok.aBN(aZ:cX E)(k:E.cM=[])(h:t.Ok){g i:Nat}(a:oh E.P g i=true){c:bI E.T}(l:c.ub.nC E t.br (t.LE g) (fp E.P g) i (hn E.P g i))(F:Nat):(t.J8 g i c F).Ok:=by
 refine h.Mq aZ a λ f s r d=>?_;split at d
 ·exact h.NC aZ k a l F f s r (ahU d)
 ·split at d
  ·rename_i q m
   have v:=a
   unfold oh at a
   split at a
   ·rename_i b af
    have n:hn E.P g i=b:=by unfold hn;rw[af]
    rw[n]
    unfold p5 at af
    split at af
    ·rename_i fn j
     split at af
     ·rename_i o p
      have e:=h.le g fn o f j p
      have u:fp E.P g=fn.ntmps:=by unfold fp;rw[j]
      rw[u]
      exact xl m e af s r d
     ·simp[fl]at af
    ·simp[fl]at af
   ·cases a
  ·exact d.elim
theorem cK.Ok.KD(aZ:cX E)(n:E.cM=[])(h:t.Ok){f b bV:Nat}(ad:eX E.b7 f=true)
 (o:(nQ E t.br t.LE f [.p (.slice none 0 0)] []).run (mg E.T b bV).hL.fin=some (((),()),([],())))
 (p:∀(a:Addr)(c:Nat),(nQ E t.br t.LE f [.p (.slice (some a) 0 c)] []).run (mg E.T b bV).hL.fin=some (((),()),([],())))
 (J:∀(d:E.T.El b)(l:List (E.T.El b)),(nQ E t.br t.LE f [.s b (d::l)] []).run (mg E.T b bV).hL.fin=(bD bV [] (d::l)).bind λ r=>some (((),()),(r,()))):(t.f f ((mg E.T b bV).run E)).Ok:=by
 refine h.oT ad λ ys bl r q=>Fw aZ (k6 aZ h.ce h.le 100) h.le n (c:=(mg E.T b bV).hL) (λ da db F w ρ bl vs j=>?_) ys bl r (AB q)
 obtain⟨l,⟨⟩⟩:=da
 have s:bD bV ([]:List (E.T.El b)) []=some []:=by simp[bD]
 have k:∀l:List (E.T.El b),(mg E.T b bV).hL.fn ((l,()),db)=(bD bV [] l).bind λ r=>some (((),()),(r,())):=λ l=>by
  show dh _ (bD bV [] l)=_
  cases bD bV ([]:List (E.T.El b)) l<;>rfl
 cases l with
 |cons d l=>exact⟨_,j,λ r g=>(J d l).trans ((k _).symm.trans g)⟩
 |nil=>
  have m:a1 E.T F w ρ bl [.s b []] vs:=j
  simp only[a1,ao]at m
  obtain⟨u,us,rfl,v,rfl⟩:=m
  obtain⟨A,c,e,e1,e2,e3,_⟩:=v
  simp only[hh,and_true]at e
  subst e
  have i:=k []
  rw[s]at i
  cases A with
  |none=>
   rw[e3 rfl]
   exact⟨[.p (.slice none 0 0)],by simp[a1,ao],λ r g=>o.trans (i.symm.trans g)⟩
  |some a=>exact⟨[.p (.slice (some a) 0 c)],by simp[a1,ao],λ r g=>(p a c).trans (i.symm.trans g)⟩
end
end a8
namespace I
def bb{ρ α:Type}(o:Option (Way ρ α)):Option (α⊕ρ):=match o with
 |none=>none
 |some (.go a)=>some (.inl a)
 |some (.out r)=>some (.inr r)
noncomputable def c7{α:Type}(p:Prop)(o:Option α):Option α:=@ite _ p (Classical.propDecidable p) o none
theorem dv{α:Type}{p:Prop}{o:Option α}(h:p):c7 p o=o:=by unfold c7;exact if_pos h
theorem du{α:Type}{p:Prop}:c7 p (none:Option α)=none:=by unfold c7;split<;>rfl
theorem dV{α:Type}{p:Prop}{o:Option α}{r:α}(h:c7 p o=some r):p/\o=some r:=by
 unfold c7 at h;split at h
 ·rename_i a
  exact⟨a,h⟩
 ·cases h
section
variable{α β cp rc ρ σ:Type}
theorem aCu(o:Option (Way ρ α))(k:α->Option (Way ρ β)):cU o k=dj (bb o) k (λ r=>some (.out r)):=by
 cases o with
 |none=>rfl
 |some y=>cases y<;>rfl
theorem aCF(o:Option (Way ρ α))(k:α->Option ρ):ca o k=dj (bb o) k (λ r=>some r):=by
 cases o with
 |none=>rfl
 |some y=>cases y<;>rfl
theorem aCM(a:α):bb (some (.go a):Option (Way ρ α))=some (.inl a):=rfl
theorem aCN(r:ρ):bb (some (.out r):Option (Way ρ α))=some (.inr r):=rfl
theorem aCO:bb (none:Option (Way ρ α))=none:=rfl
theorem aCP(o:Option cp)(f:cp->Option (Way ρ α)):bb (o.bind f)=o.bind λ x=>bb (f x):=by cases o<;>rfl
theorem aCQ(c:Bool)(x y:Option (Way ρ α)):bb (cond c x y)=cond c (bb x) (bb y):=by cases c<;>rfl
theorem aCR(o:Option (cp⊕rc))(f:cp->Option (Way ρ α))(g:rc->Option (Way ρ α)):bb (dj o f g)=dj o (λ x=>bb (f x)) (λ x=>bb (g x)):=by
 cases o with
 |none=>rfl
 |some y=>cases y<;>rfl
theorem aCS(a:α)(k:α->Option cp)(l:β->Option cp):dj (some (.inl a)) k l=k a:=rfl
theorem aCv(b:β)(k:α->Option cp)(l:β->Option cp):dj (some (.inr b)) k l=l b:=rfl
theorem aCw(k:α->Option cp)(l:β->Option cp):dj none k l=none:=rfl
theorem aCx(o:Option rc)(f:rc->Option (α⊕β))(k:α->Option cp)(l:β->Option cp):dj (o.bind f) k l=o.bind λ x=>dj (f x) k l:=by cases o<;>rfl
theorem aCy(c:Bool)(x y:Option (α⊕β))(k:α->Option cp)(l:β->Option cp):dj (cond c x y) k l=cond c (dj x k l) (dj y k l):=by cases c<;>rfl
theorem aCz(o:Option (ρ⊕σ))(f:ρ->Option (α⊕β))(g:σ->Option (α⊕β))(k:α->Option cp)(l:β->Option cp):dj (dj o f g) k l=dj o (λ x=>dj (f x) k l) (λ x=>dj (g x) k l):=by
 cases o with
 |none=>rfl
 |some y=>cases y<;>rfl
theorem aCA(o:Option α)(f:α->Option β)(g:β->Option cp):(o.bind f).bind g=o.bind λ x=>(f x).bind g:=by cases o<;>rfl
theorem aCB(a:α)(f:α->Option β):(some a).bind f=f a:=rfl
theorem aCC(f:α->Option β):dB none f=none:=rfl
theorem aCD(c:Bool)(x y:Option α)(f:α->Option β):(cond c x y).bind f=cond c (x.bind f) (y.bind f):=by cases c<;>rfl
theorem aCE(o:Option (ρ⊕σ))(k:ρ->Option α)(l:σ->Option α)(f:α->Option β):(dj o k l).bind f=dj o (λ x=>(k x).bind f) (λ x=>(l x).bind f):=by
 cases o with
 |none=>rfl
 |some y=>cases y<;>rfl
theorem aCG(o:Option α)(f:α->Option β)(g:β->cp):(o.bind f).map g=o.bind λ x=>(f x).map g:=by cases o<;>rfl
theorem aCH(c:Bool)(x y:Option α)(g:α->cp):(cond c x y).map g=cond c (x.map g) (y.map g):=by cases c<;>rfl
theorem aCI(a:α)(g:α->cp):(some a).map g=some (g a):=rfl
theorem aCJ(g:α->cp):dh g none=none:=rfl
theorem aCK(o:Option (ρ⊕σ))(k:ρ->Option α)(l:σ->Option α)(g:α->cp):(dj o k l).map g=dj o (λ x=>(k x).map g) (λ x=>(l x).map g):=by
 cases o with
 |none=>rfl
 |some y=>cases y<;>rfl
theorem aCL{cJ:Type}(k:cJ)(b:cJ->Option α):join k b=b k:=rfl
def jU{α β:Type}(o:Option (Option α×β)):Option ((α×β)⊕β):=match o with
 |none=>none
 |some (some v,e)=>some (.inl (v,e))
 |some (none,e)=>some (.inr e)
theorem aim(o:Option (Option α×β))(f:Option α×β->Option cp):o.bind f=dj (jU o) (λ p=>f (some p.1,p.2)) (λ e=>f (none,e)):=by
 rcases o with _ |⟨_ |v,e⟩<;>rfl
theorem ain(v:α)(e:β):jU (some (some v,e))=some (.inl (v,e)):=rfl
theorem aio(e:β):jU (some ((none:Option α),e))=some (.inr e):=rfl
theorem aip:jU (none:Option (Option α×β))=none:=rfl
theorem aiq(o:Option cp)(f:cp->Option (Option α×β)):jU (o.bind f)=o.bind λ x=>jU (f x):=by cases o<;>rfl
theorem air(c:Bool)(x y:Option (Option α×β)):jU (cond c x y)=cond c (jU x) (jU y):=by cases c<;>rfl
theorem ais(o:Option (cp⊕rc))(f:cp->Option (Option α×β))(g:rc->Option (Option α×β)):jU (dj o f g)=dj o (λ x=>jU (f x)) (λ x=>jU (g x)):=by
 cases o with
 |none=>rfl
 |some y=>cases y<;>rfl
theorem aCp(b x:Bool):cond b (some x) (some false)=some (b&&x):=by cases b<;>rfl
theorem aCq{α:Type}(a b:Bool)(x y:Option α):cond a (cond b x y) y=cond (a&&b) x y:=by cases a<;>rfl
theorem Xv{α:Type}(a b:Bool)(x y:Option α):cond a x (cond b x y)=cond (a||b) x y:=by cases a<;>rfl
theorem a6:(∀ {α β ρ:Type}(o:Option (Way ρ α))(k:α->Option (Way ρ β)),cU o k=dj (bb o) k (λ r=>some (.out r)))/\(∀ {α ρ:Type}(o:Option (Way ρ α))(k:α->Option ρ),ca o k=dj (bb o) k (λ r=>some r))/\(∀ {α ρ:Type}(a:α),bb (some (.go a):Option (Way ρ α))=some (.inl a))/\(∀ {α ρ:Type}(r:ρ),bb (some (.out r):Option (Way ρ α))=some (.inr r))/\(∀ {α ρ:Type},bb (none:Option (Way ρ α))=none)/\(∀ {α cp ρ:Type}(o:Option cp)(f:cp->Option (Way ρ α)),bb (o.bind f)=o.bind λ x=>bb (f x))/\(∀ {α ρ:Type}(c:Bool)(x y:Option (Way ρ α)),bb (cond c x y)=cond c (bb x) (bb y))/\(∀ {α cp rc ρ:Type}(o:Option (cp⊕rc))(f:cp->Option (Way ρ α))(g:rc->Option (Way ρ α)),bb (dj o f g)=dj o (λ x=>bb (f x)) (λ x=>bb (g x)))/\(∀ {α β cp:Type}(a:α)(k:α->Option cp)(l:β->Option cp),dj (some (.inl a)) k l=k a)/\(∀ {α β cp:Type}(b:β)(k:α->Option cp)(l:β->Option cp),dj (some (.inr b)) k l=l b)/\(∀ {α β cp:Type}(k:α->Option cp)(l:β->Option cp),dj none k l=none)/\(∀ {α β cp rc:Type}(o:Option rc)(f:rc->Option (α⊕β))(k:α->Option cp)(l:β->Option cp),dj (o.bind f) k l=o.bind λ x=>dj (f x) k l)/\(∀ {α β cp:Type}(c:Bool)(x y:Option (α⊕β))(k:α->Option cp)(l:β->Option cp),dj (cond c x y) k l=cond c (dj x k l) (dj y k l))/\(∀ {α β cp ρ σ:Type}(o:Option (ρ⊕σ))(f:ρ->Option (α⊕β))(g:σ->Option (α⊕β))(k:α->Option cp)(l:β->Option cp),dj (dj o f g) k l=dj o (λ x=>dj (f x) k l) (λ x=>dj (g x) k l))/\(∀ {α β cp:Type}(o:Option α)(f:α->Option β)(g:β->Option cp),(o.bind f).bind g=o.bind λ x=>(f x).bind g)/\(∀ {α β:Type}(a:α)(f:α->Option β),(some a).bind f=f a)/\(∀ {α β:Type}(f:α->Option β),dB none f=none)/\(∀ {α β:Type}(c:Bool)(x y:Option α)(f:α->Option β),(cond c x y).bind f=cond c (x.bind f) (y.bind f))/\(∀ {α β ρ σ:Type}(o:Option (ρ⊕σ))(k:ρ->Option α)(l:σ->Option α)(f:α->Option β),(dj o k l).bind f=dj o (λ x=>(k x).bind f) (λ x=>(l x).bind f))/\(∀ {α β cp:Type}(o:Option α)(f:α->Option β)(g:β->cp),(o.bind f).map g=o.bind λ x=>(f x).map g)/\(∀ {α cp:Type}(c:Bool)(x y:Option α)(g:α->cp),(cond c x y).map g=cond c (x.map g) (y.map g))/\(∀ {α cp:Type}(a:α)(g:α->cp),(some a).map g=some (g a))/\(∀ {α cp:Type}(g:α->cp),dh g none=none)/\(∀ {α cp ρ σ:Type}(o:Option (ρ⊕σ))(k:ρ->Option α)(l:σ->Option α)(g:α->cp),(dj o k l).map g=dj o (λ x=>(k x).map g) (λ x=>(l x).map g))/\(∀ {α:Type}{cJ:Type}(k:cJ)(b:cJ->Option α),join k b=b k):=⟨aCu,aCF,aCM,aCN,aCO,aCP,aCQ,aCR,aCS,aCv,aCw,aCx,aCy,aCz,aCA,aCB,aCC,aCD,aCE,aCG,aCH,aCI,aCJ,aCK,aCL⟩
end
end I
namespace a8
open Go Go.RowKit aq I
theorem bI.bR{E:Env}{br:fc E}{LE:nB E}{n id:Nat}{body:Code}{c:bI E.T}(a:∀d,c.fn 0 d=none)
 (b:∀k (da:dd E.T.El c.pas)(db:cx E.T.El c.pbs) q,c.fn (k+1) (da,db)=some q->(den E br LE n body (zp E c.ub da db)).run (c.ub.fin E id k)=(c.fn (k+1) (da,db)).map λ r=>bQ (da,db) c.ws r):c.ub.nC E br LE n id body:=
 ⟨λ d=>by exact(congrArg (dh _) (a d)).trans rfl,λ k da db r h=>by
  obtain⟨q,e1,_⟩:=cd.1 h;exact(b k da db q e1).trans h⟩
end a8
namespace a8
open Go Go.RowKit aq I
def okF(P:Program)(f:Nat):Bool:=match P.funcs[f]? with
 |some fn=>!(fn.name== "runtime.NumGoroutine")&& !fn.body.isNone
 |none=>false
theorem aiB{P:Program}{f:Nat}(h:okF P f=true)(args:Array Value)(w:World):(callFunc f args).run P w= .ok (.enter f args) w:=by
 unfold okF at h;split at h
 ·rename_i fn ad
  simp only[bC,ga]at h
  have a: ¬fn.name= "runtime.NumGoroutine" :=λ e=>by rw[e]at h;simp at h
  cases af:fn.body with
  |none=>rw[af]at h;simp at h
  |some c=>simp[callFunc,go_sem,ad,a,af]
 ·cases h
def Pq(P:Program):List Nat->Bool
 |[]=>true
 |f::r=>okF P f&&Pq P r
theorem XI{P:Program}:∀ {l:List Nat}{f:Nat},Pq P l=true->f∈l->okF P f=true
 |g::r,f,h,ad=>by
  simp only[Pq,bC]at h;rcases cm.1 ad with rfl |ad
  ·exact h.1
  ·exact XI h.2 ad
theorem PS{α:Type}{A B:cY α}{F F':Nat->Prop}{w w':World}(h:∀cs d,A.rd F w cs d->B.rd F' w' cs d):∀ {l:List α}{xs:List Value},dx A F w xs l->dx B F' w' xs l
 |[],xs,a=>a
 |d::r,xs,a=>by
  obtain⟨cs,ys,rfl,b,J⟩:=a;exact⟨cs,ys,rfl,h _ _ b,PS h J⟩
theorem jl{α:Type}{A B:cY α}{F:Nat->Prop}{w:World}(h:∀cs d,A.rd F w cs d->B.rd F w cs d){xs:List Value}{l:List α}(a:(bY A).rd F w xs l):(bY B).rd F w xs l:=by
 obtain⟨P,c,e,b,J,f,g⟩:=a;refine⟨P,c,e,b,J,f,λ i=>?_⟩;obtain⟨j,k,ys,m,n⟩:=g i;exact⟨j,k,ys,PS h m,n⟩
def By(P:Program)(T:bN)(t:Nat)(e:bZ T.El t):Prop:=∀f,e.eq=some f-> ∀F w xs ys d e',e.ty.rd F w xs d->e.ty.rd F w ys e'-> ∀(o:Oper)(a:Act)(x y:Operand)(t':TypeId)(b:Bool),o.op= .binOp (cond b .eql .neq) t x y t'->a.eval x= .agg ⟨xs⟩->a.eval y= .agg ⟨ys⟩-> ∀w',bc P o a w' (.bool (cond b (f d e') (!f d e'))) w'
def Tf(P:Program)(T:bN):List (Σ t,bZ T.El t)->Prop
 |[]=>True
 |p::r=>By P T p.1 p.2/\Tf P T r
theorem Td{P:Program}{T:bN}{t:Nat}:∀ {es:List (Σ t,bZ T.El t)},Tf P T es->By P T t (fD es t)
 |[],_=>λ f ad=>by cases ad
 |p::r,h=>by
  simp only[fD];split
  ·rename_i e _
   subst e
   exact h.1
  ·exact Td h.2
theorem fv{P:Program}{T:bN}{t:Nat}{e:bZ T.El t}(h:e.eq=none):By P T t e:=λ f ad=>by rw[h]at ad;cases ad
section
variable{E:Env}{f:Nat}
theorem ahZ(W:World):Mem E.T W [] (λ _=>False) [] [] W:=
 ⟨bj.refl _ _,rfl,λ _ h=>h.elim,λ k ⟨i,B,h,a,_⟩=>by simp at a,λ i j B C h g a=>by simp at a,λ i B h a=>by simp at a⟩
theorem aBt(c:E.cM=[]){g:List (aF E.T.El)->List (aC E.T.El)->D (fj E.T.El)}(hc:j6 E f g){ys:List (aF E.T.El)}(d:(g ys []).out ⟨.ret (.p (.bool true)),[],[]⟩){W:World}{vs:List Value}(j:a1 E.T (λ k=>k<W.heap.size) W [] [] ys vs) :
 Calls E.P f ⟨vs⟩ W λ e w'=>e= .returned (.bool true)/\bj [] W w':=by
 have l:a1 E.T (bi (λ _=>False) ([]:List (aC E.T.El)) [] W) W [] [] ys vs:=a1.later (λ k m=>⟨⟨λ h=>h,λ⟨i,B,h,n,_⟩=>by simp at n,m⟩,rfl⟩) .refl ys j
 refine(hc ys [] _ d W [] (λ _=>False) [] W vs (ahZ W) (λ g y b=>by rw[c]at b;simp[cv]at b) l).mono λ e w' ⟨ρ',o,_,_,a⟩=>?_
 cases e with
 |returned v=>
  have a:v= .bool true:=by
   simp only[Cl,ao]at a;exact a
  exact⟨by rw[a],o.bS⟩
 |panicked y5=>exact a.elim
 |outgrown=>exact a.elim
end
end a8
namespace a8
open Go Go.RowKit aq I
section
variable{T:bN}{W w w':World}{M0:List Nat}{X:Nat->Prop}{bl:List (aC T.El)}{ρ:List Value}{E:List a7}{D:List bA}
variable{t sz:Nat}{h:Value}{l:List (T.El t)}{xs:List Value}{R:cY (T.El t)}
variable{t' uN:Nat}{h':Value}{l':List (T.El t')}{eO:List Value}{acr:cY (T.El t')}
theorem aw7{A:Option Addr}{n c k:Nat}(a:k∈af (.slice A n c)):k∈(Value.slice A n c).ownBlock.toList:=by
 cases A<;>cases c<;>simp_all [af,Value.ownBlock]
theorem Zk{F:Nat->Prop}{M:List Nat}(ap:(a7.row t sz h l xs).ok w')(a:(bA.rows R xs l).ok M w')(b:(T.ty t).size=sz)(e:∀F cs d,R.rd F w' cs d-> ∀F',(T.ty t).rd F' w' cs d)(g k:Nat):iX T F w' ρ bl (.r t g k l) h:=by
 subst b;obtain⟨A,c,rfl,_⟩:=KN ap;exact⟨A,c,xs,rfl,.inl ap,PS (λ cs d f=>e _ _ _ f _) a⟩
theorem Ni(aj:bs w [] [] w' E D)(hi:a7.row t sz h l xs∈E){g k:Nat}:∀q∈bz (aC.r t g k l:aC T.El) h,q∈(a7.row t sz h l xs).bz/\w.heap.size<=q/\q<w'.heap.size:=λ q d=>by
 obtain⟨A,c,rfl,_⟩:=KN (aj.ok _ hi);have a:q∈(a7.row t sz (.slice A l.length c) l xs).bz:=aw7 d;have b:=aj.lt q (ho.2 ⟨_,hi,a⟩);exact⟨a,b.2.resolve_left (by simp),b.1⟩
theorem Mem.st1(b:Mem T W M0 X bl ρ w)(aj:bs w [] [] w' (a7.row t sz h l xs::E) (bA.rows R xs l::D))(c:(T.ty t).size=sz)(e:∀F cs d,R.rd F w' cs d-> ∀F',(T.ty t).rd F' w' cs d) :
 Mem T W M0 X (bl++[.r t 0 0 l]) (ρ++[h]) w'/\To X bl (bl++[.r t 0 0 l]) ρ (ρ++[h]) w w':=
 ⟨b.push aj.bS (λ q a=>(Ni (xs:=xs) (sz:=sz) aj (by simp) q a).2) (Zk (aj.e 0 rfl) (aj.d 0 rfl) c e 0 0),b.AQ aj.bS λ q a=>(Ni (xs:=xs) (sz:=sz) aj (by simp) q a).2⟩
theorem Mem.st2(f:Mem T W M0 X bl ρ w)(aj:bs w [] [] w' (a7.row t sz h l xs::a7.row t' uN h' l' eO::E) (bA.rows R xs l::bA.rows acr eO l'::D))(i:(T.ty t).size=sz)(j:∀F cs d,R.rd F w' cs d-> ∀F',(T.ty t).rd F' w' cs d)
 (m:(T.ty t').size=uN)(b:∀F cs d,acr.rd F w' cs d-> ∀F',(T.ty t').rd F' w' cs d) :
 Mem T W M0 X (bl++[.r t 0 0 l,.r t' 0 0 l']) (ρ++[h,h']) w'/\To X bl (bl++[.r t 0 0 l,.r t' 0 0 l']) ρ (ρ++[h,h']) w w':=by
 have c:=Ni (T:=T) (g:=0) (k:=0) (l:=l) (h:=h) (xs:=xs) (sz:=sz) aj (by simp)
 have e:=Ni (T:=T) (g:=0) (k:=0) (l:=l') (h:=h') (xs:=eO) (sz:=uN) aj (by simp)
 have aK:=aj.bu
 simp only[bT,ig]at aK
 refine⟨f.ai_ aj.bS (λ q a=>(c q a).2) (λ q a=>(e q a).2) (λ q n J=>?_) (Zk (aj.e 0 rfl) (aj.d 0 rfl) i j 0 0) (Zk (aj.e 1 rfl) (aj.d 1 rfl) m b 0 0),f.ZT aj.bS (λ q a=>(c q a).2) λ q a=>(e q a).2⟩
 exact(eK.1 aK).2.2 q (c q n).1 q (j3 _ (e q J).1) rfl
end
end a8
namespace a8
open Go Go.RowKit aq I
def ZX{α:Type}(T:cY α):cY α where
 size:=1
 rd F w cs d:=∃a q us,cs=[.pointer (some ⟨a,q,none⟩)]/\F a/\T.rd F w us d/\fb w ⟨a,q,none⟩ us
 len h:=by obtain⟨a,q,us,rfl,_⟩:=h;rfl
 one h v c:=by
  obtain⟨a,q,us,rfl,_⟩:=h;simp only[dK]at c;subst c;rfl
 law b h:=by
  obtain⟨a,q,us,rfl,e,J,f⟩:=h;exact⟨a,q,us,rfl,(b a e).1,T.law b J,f.law (b a e).2⟩
def Wj{El:Nat->Type}(s:Nat):List (aF El)->Option (El s)
 |[.x t d 0]=>match kS t s with
  | .isTrue h=>some (h▸d)
  | .isFalse _=>none
 |_=>none
section
variable{T:bN}{F:Nat->Prop}{w:World}{ρ:List Value}{bl:List (aC T.El)}
theorem azu{s:Nat}{l:List (aF T.El)}{d:T.El s}(h:Wj s l=some d){xs:List Value}(b:a1 T F w ρ bl l xs):(ZX (T.ty s)).rd F w xs d:=by
 unfold Wj at h;split at h
 ·rename_i t d'
  split at h
  ·rename_i e _
   subst e
   simp only[aD]at h
   subst h
   simp only[a1]at b
   obtain⟨u,us,rfl,c,rfl⟩:=b
   simp only[ao]at c
   obtain⟨a,q,cs,rfl,f,J,g⟩:=c
   exact⟨a,q,cs,rfl,f,J,g⟩
  ·cases h
 ·cases h
theorem atw{s:Nat}{d:T.El s}{xs:List Value}(h:(ZX (T.ty s)).rd F w xs d):a1 T F w ρ bl [.x s d 0] xs:=by
 obtain⟨a,q,us,rfl,b,J,c⟩:=h;simp only[a1];refine⟨_,_,rfl,?_,rfl⟩;simp only[ao];exact⟨a,q,us,rfl,b,J,c⟩
end
end a8
namespace Go.Proofs.YteeliipnilghaaaGreat
open Go Go.RowKit aq a8
def cc:Nat->Type:=ad7 [(2,Int),(3,Int),(4,Bool),(5,UInt8),(6,UInt8),(9,List UInt8),(10,List UInt8),(11,List UInt8),(21,Int),(22,List Int),(24,I.aR),(136,I.Field),(128,I.Kind),(157,I.Handler),(131,I.Method),(134,I.ak),(25,List I.ak),(124,List I.Field),(26,List (List I.Field)),(120,List (List UInt8)),(27,List (List (List UInt8))),(166,I.Target),(121,List I.Target),(28,List (List I.Target)),(30,I.aP),(31,Int),(69,I.b4),(126,List I.Kind),(129,List I.Handler),(132,List I.Method),(192,Int),(202,List (List Int)),(204,List UInt8),(219,UInt8),(220,UInt8),(223,Int),(224,Int),(109,Int)]
def aef:List (Σ t,bZ cc t):=[]
def e2:bZ cc 2:=eU aef false [.i .i64] (λ(d:Int)=>(d,())) (λ(p:Int×Unit)=>p.1) none (some tZ)
def FF:List (Σ t,bZ cc t):=⟨2,e2⟩::aef
def e3:bZ cc 3:=eU FF false [.i .i64] (λ(d:Int)=>(d,())) (λ(p:Int×Unit)=>p.1) none (some tZ)
def aez:List (Σ t,bZ cc t):=⟨3,e3⟩::FF
def e4:bZ cc 4:=eU aez false [.b] (λ(d:Bool)=>(d,())) (λ(p:Bool×Unit)=>p.1) none none
def Tj:List (Σ t,bZ cc t):=⟨4,e4⟩::aez
def e5:bZ cc 5:=eU Tj false [.y] (λ(d:UInt8)=>(d,())) (λ(p:UInt8×Unit)=>p.1) none none
def aeC:List (Σ t,bZ cc t):=⟨5,e5⟩::Tj
def e6:bZ cc 6:=eU aeC false [.y] (λ(d:UInt8)=>(d,())) (λ(p:UInt8×Unit)=>p.1) none none
def M9:List (Σ t,bZ cc t):=⟨6,e6⟩::aeC
def FD:bZ cc 9:=eU M9 false [.s] (λ(d:List UInt8)=>(d,())) (λ(p:(List UInt8)×Unit)=>p.1) none (some JU)
def aeE:List (Σ t,bZ cc t):=⟨9,FD⟩::M9
def FA:bZ cc 10:=eU aeE false [.s] (λ(d:List UInt8)=>(d,())) (λ(p:(List UInt8)×Unit)=>p.1) none (some JU)
def aeg:List (Σ t,bZ cc t):=⟨10,FA⟩::aeE
def FB:bZ cc 11:=eU aeg false [.s] (λ(d:List UInt8)=>(d,())) (λ(p:(List UInt8)×Unit)=>p.1) none (some JU)
def aeh:List (Σ t,bZ cc t):=⟨11,FB⟩::aeg
def adS:bZ cc 21:=eU aeh false [.i .i32] (λ(d:Int)=>(d,())) (λ(p:Int×Unit)=>p.1) none none
def aes:List (Σ t,bZ cc t):=⟨21,adS⟩::aeh
def adU:bZ cc 22:=eU aes false [.l 3] (λ(d:List Int)=>(d,())) (λ(p:(List Int)×Unit)=>p.1) none none
def aeu:List (Σ t,bZ cc t):=⟨22,adU⟩::aes
def adY:bZ cc 24:=eU aeu true [.l 3,.i .i64,.i .i64,.i .i64,.i .i64,.l 3,.i .i64] (λ(d:I.aR)=>(d.Words,d.av,d.aL,d.aU,d.aT,d.aS,d.Next,())) (λ(p:(List Int)×Int×Int×Int×Int×(List Int)×Int×Unit)=>(⟨p.1,p.2.1,p.2.2.1,p.2.2.2.1,p.2.2.2.2.1,p.2.2.2.2.2.1,p.2.2.2.2.2.2.1⟩:I.aR)) none none
def Iz:List (Σ t,bZ cc t):=⟨24,adY⟩::aeu
def S7:bZ cc 136:=eU Iz true [.s,.i .i64,.s] (λ(d:I.Field)=>(d.Name,d.Kind.Kind,d.Kind.ak,())) (λ(p:(List UInt8)×Int×(List UInt8)×Unit)=>(⟨p.1,⟨p.2.1,p.2.2.1⟩⟩:I.Field)) (some λ(d e:I.Field)=>decide (d=e)) none
def M6:List (Σ t,bZ cc t):=⟨136,S7⟩::Iz
def S6:bZ cc 128:=eU M6 true [.i .i64,.s] (λ(d:I.Kind)=>(d.Kind,d.ak,())) (λ(p:Int×(List UInt8)×Unit)=>(⟨p.1,p.2.1⟩:I.Kind)) (some λ(d e:I.Kind)=>decide (d=e)) none
def M4:List (Σ t,bZ cc t):=⟨128,S6⟩::M6
def S8:bZ cc 157:=eU M4 true [.i .i64,.i .i64,.i .i64,.s] (λ(d:I.Handler)=>(d.From,d.To,d.At,d.ak,())) (λ(p:Int×Int×Int×(List UInt8)×Unit)=>(⟨p.1,p.2.1,p.2.2.1,p.2.2.2.1⟩:I.Handler)) (some λ(d e:I.Handler)=>decide (d=e)) none
def M7:List (Σ t,bZ cc t):=⟨157,S8⟩::M4
def adM:bZ cc 131:=eU M7 true [.s,.b,.l 128,.i .i64,.s,.i .i64,.i .i64,.s,.l 157] (λ(d:I.Method)=>(d.Name,d.Static,d.cr,d.Returns.Kind,d.Returns.ak,d.hJ,d.hG,d.Code,d.cy,())) (λ(p:(List UInt8)×Bool×(List I.Kind)×Int×(List UInt8)×Int×Int×(List UInt8)×(List I.Handler)×Unit)=>(⟨p.1,p.2.1,p.2.2.1,⟨p.2.2.2.1,p.2.2.2.2.1⟩,p.2.2.2.2.2.1,p.2.2.2.2.2.2.1,p.2.2.2.2.2.2.2.1,p.2.2.2.2.2.2.2.2.1⟩:I.Method)) none none
def M5:List (Σ t,bZ cc t):=⟨131,adM⟩::M7
def adO:bZ cc 134:=eU M5 true [.s,.s,.l 136,.l 131] (λ(d:I.ak)=>(d.Name,d.cR,d.Fields,d.bf,())) (λ(p:(List UInt8)×(List UInt8)×(List I.Field)×(List I.Method)×Unit)=>(⟨p.1,p.2.1,p.2.2.1,p.2.2.2.1⟩:I.ak)) none none
def aeo:List (Σ t,bZ cc t):=⟨134,adO⟩::M5
def adZ:bZ cc 25:=eU aeo false [.l 134] (λ(d:List I.ak)=>(d,())) (λ(p:(List I.ak)×Unit)=>p.1) none none
def Th:List (Σ t,bZ cc t):=⟨25,adZ⟩::aeo
def adJ:bZ cc 124:=eU Th false [.l 136] (λ(d:List I.Field)=>(d,())) (λ(p:(List I.Field)×Unit)=>p.1) none none
def aek:List (Σ t,bZ cc t):=⟨124,adJ⟩::Th
def ad0:bZ cc 26:=eU aek false [.l 124] (λ(d:List (List I.Field))=>(d,())) (λ(p:(List (List I.Field))×Unit)=>p.1) none none
def Ti:List (Σ t,bZ cc t):=⟨26,ad0⟩::aek
def adH:bZ cc 120:=eU Ti false [.l 9] (λ(d:List (List UInt8))=>(d,())) (λ(p:(List (List UInt8))×Unit)=>p.1) none none
def aei:List (Σ t,bZ cc t):=⟨120,adH⟩::Ti
def ad1:bZ cc 27:=eU aei false [.l 120] (λ(d:List (List (List UInt8)))=>(d,())) (λ(p:(List (List (List UInt8)))×Unit)=>p.1) none none
def M8:List (Σ t,bZ cc t):=⟨27,ad1⟩::aei
def S9:bZ cc 166:=eU M8 true [.i .i64,.i .i64] (λ(d:I.Target)=>(d.ak,d.Method,())) (λ(p:Int×Int×Unit)=>(⟨p.1,p.2.1⟩:I.Target)) (some λ(d e:I.Target)=>decide (d=e)) none
def Tg:List (Σ t,bZ cc t):=⟨166,S9⟩::M8
def adI:bZ cc 121:=eU Tg false [.l 166] (λ(d:List I.Target)=>(d,())) (λ(p:(List I.Target)×Unit)=>p.1) none none
def aej:List (Σ t,bZ cc t):=⟨121,adI⟩::Tg
def ad2:bZ cc 28:=eU aej false [.l 121] (λ(d:List (List I.Target))=>(d,())) (λ(p:(List (List I.Target))×Unit)=>p.1) none none
def aey:List (Σ t,bZ cc t):=⟨28,ad2⟩::aej
def ad3:bZ cc 30:=eU aey true [.l 134,.l 3,.l 124,.l 120,.l 121] (λ(d:I.aP)=>(d.aY,d.aW,d.Fields,d.Names,d.aX,())) (λ(p:(List I.ak)×(List Int)×(List (List I.Field))×(List (List (List UInt8)))×(List (List I.Target))×Unit)=>(⟨p.1,p.2.1,p.2.2.1,p.2.2.2.1,p.2.2.2.2.1⟩:I.aP)) none none
def aeA:List (Σ t,bZ cc t):=⟨30,ad3⟩::aey
def ad4:bZ cc 31:=eU aeA false [.i .i64] (λ(d:Int)=>(d,())) (λ(p:Int×Unit)=>p.1) none (some tZ)
def aeB:List (Σ t,bZ cc t):=⟨31,ad4⟩::aeA
def ad5:bZ cc 69:=eU aeB true [.l 134,.l 3,.l 124,.l 120,.l 121] (λ(d:I.b4)=>(d.K.aY,d.K.aW,d.K.Fields,d.K.Names,d.K.aX,())) (λ(p:(List I.ak)×(List Int)×(List (List I.Field))×(List (List (List UInt8)))×(List (List I.Target))×Unit)=>(⟨⟨p.1,p.2.1,p.2.2.1,p.2.2.2.1,p.2.2.2.2.1⟩⟩:I.b4)) none none
def aeD:List (Σ t,bZ cc t):=⟨69,ad5⟩::aeB
def adK:bZ cc 126:=eU aeD false [.l 128] (λ(d:List I.Kind)=>(d,())) (λ(p:(List I.Kind)×Unit)=>p.1) none none
def ael:List (Σ t,bZ cc t):=⟨126,adK⟩::aeD
def adL:bZ cc 129:=eU ael false [.l 157] (λ(d:List I.Handler)=>(d,())) (λ(p:(List I.Handler)×Unit)=>p.1) none none
def aem:List (Σ t,bZ cc t):=⟨129,adL⟩::ael
def adN:bZ cc 132:=eU aem false [.l 131] (λ(d:List I.Method)=>(d,())) (λ(p:(List I.Method)×Unit)=>p.1) none none
def aen:List (Σ t,bZ cc t):=⟨132,adN⟩::aem
def adP:bZ cc 192:=eU aen false [.i .i64] (λ(d:Int)=>(d,())) (λ(p:Int×Unit)=>p.1) none (some tZ)
def aep:List (Σ t,bZ cc t):=⟨192,adP⟩::aen
def adQ:bZ cc 202:=eU aep false [.l 22] (λ(d:List (List Int))=>(d,())) (λ(p:(List (List Int))×Unit)=>p.1) none none
def aeq:List (Σ t,bZ cc t):=⟨202,adQ⟩::aep
def adR:bZ cc 204:=eU aeq false [.l 5] (λ(d:List UInt8)=>(d,())) (λ(p:(List UInt8)×Unit)=>p.1) none none
def aer:List (Σ t,bZ cc t):=⟨204,adR⟩::aeq
def adT:bZ cc 219:=eU aer false [.y] (λ(d:UInt8)=>(d,())) (λ(p:UInt8×Unit)=>p.1) none none
def aet:List (Σ t,bZ cc t):=⟨219,adT⟩::aer
def adV:bZ cc 220:=eU aet false [.y] (λ(d:UInt8)=>(d,())) (λ(p:UInt8×Unit)=>p.1) none none
def aev:List (Σ t,bZ cc t):=⟨220,adV⟩::aet
def adW:bZ cc 223:=eU aev false [.i .i32] (λ(d:Int)=>(d,())) (λ(p:Int×Unit)=>p.1) none none
def aew:List (Σ t,bZ cc t):=⟨223,adW⟩::aev
def adX:bZ cc 224:=eU aew false [.i .i32] (λ(d:Int)=>(d,())) (λ(p:Int×Unit)=>p.1) none none
def aex:List (Σ t,bZ cc t):=⟨224,adX⟩::aew
def adG:bZ cc 109:=⟨(ZX (fD aex 3).ty:cY (cc 109)),false,λ d=>[.x 3 (d:cc 3) 0],λ l=>(Wj (El:=cc) 3 l:Option (cc 109)),none,none⟩
def avb:List (Σ t,bZ cc t):=⟨109,adG⟩::aex
def bk:bN:=⟨cc,avb⟩
theorem atO:er bk 109 adG:=⟨λ d F w xs h=>atw (T:=bk) (s:=3) h,λ l d h F w ρ bl xs a=>azu (T:=bk) (s:=3) h a,(λ K h=>by cases h),λ h d=>rfl⟩
theorem aum:er bk 2 e2:=e0 trivial (λ _=>rfl) (λ h=>by rfl) (λ K h F w xs k a=>by cases h;obtain⟨v,vs,rfl,b,rfl⟩:=a;exact b)
theorem aup:er bk 3 e3:=e0 trivial (λ _=>rfl) (λ h=>by rfl) (λ K h F w xs k a=>by cases h;obtain⟨v,vs,rfl,b,rfl⟩:=a;exact b)
theorem auq:er bk 4 e4:=e0 trivial (λ _=>rfl) (λ h=>by rfl) (λ K h=>by cases h)
theorem aur:er bk 5 e5:=e0 trivial (λ _=>rfl) (λ h=>by rfl) (λ K h=>by cases h)
theorem aut:er bk 6 e6:=e0 trivial (λ _=>rfl) (λ h=>by rfl) (λ K h=>by cases h)
theorem auu:er bk 9 FD:=e0 trivial (λ _=>rfl) (λ h=>by rfl) (λ K h F w xs k a=>by cases h;obtain⟨v,vs,rfl,b,rfl⟩:=a;exact b)
theorem atP:er bk 10 FA:=e0 trivial (λ _=>rfl) (λ h=>by rfl) (λ K h F w xs k a=>by cases h;obtain⟨v,vs,rfl,b,rfl⟩:=a;exact b)
theorem atQ:er bk 11 FB:=e0 trivial (λ _=>rfl) (λ h=>by rfl) (λ K h F w xs k a=>by cases h;obtain⟨v,vs,rfl,b,rfl⟩:=a;exact b)
theorem auc:er bk 21 adS:=e0 trivial (λ _=>rfl) (λ h=>by rfl) (λ K h=>by cases h)
theorem aug:er bk 22 adU:=e0 ⟨by kernel_rfl,trivial⟩ (λ _=>rfl) (λ h=>by rfl) (λ K h=>by cases h)
theorem auh:er bk 24 adY:=e0 ⟨by kernel_rfl,by kernel_rfl,trivial⟩ (λ _=>rfl) (λ h=>by cases h) (λ K h=>by cases h)
theorem at3:er bk 136 S7:=e0 trivial (λ _=>rfl) (λ h=>by cases h) (λ K h=>by cases h)
theorem atX:er bk 128 S6:=e0 trivial (λ _=>rfl) (λ h=>by cases h) (λ K h=>by cases h)
theorem at5:er bk 157 S8:=e0 trivial (λ _=>rfl) (λ h=>by cases h) (λ K h=>by cases h)
theorem at0:er bk 131 adM:=e0 ⟨by kernel_rfl,by kernel_rfl,trivial⟩ (λ _=>rfl) (λ h=>by cases h) (λ K h=>by cases h)
theorem at2:er bk 134 adO:=e0 ⟨by kernel_rfl,by kernel_rfl,trivial⟩ (λ _=>rfl) (λ h=>by cases h) (λ K h=>by cases h)
theorem aui:er bk 25 adZ:=e0 ⟨by kernel_rfl,trivial⟩ (λ _=>rfl) (λ h=>by rfl) (λ K h=>by cases h)
theorem atV:er bk 124 adJ:=e0 ⟨by kernel_rfl,trivial⟩ (λ _=>rfl) (λ h=>by rfl) (λ K h=>by cases h)
theorem auj:er bk 26 ad0:=e0 ⟨by kernel_rfl,trivial⟩ (λ _=>rfl) (λ h=>by rfl) (λ K h=>by cases h)
theorem atT:er bk 120 adH:=e0 ⟨by kernel_rfl,trivial⟩ (λ _=>rfl) (λ h=>by rfl) (λ K h=>by cases h)
theorem auk:er bk 27 ad1:=e0 ⟨by kernel_rfl,trivial⟩ (λ _=>rfl) (λ h=>by rfl) (λ K h=>by cases h)
theorem at7:er bk 166 S9:=e0 trivial (λ _=>rfl) (λ h=>by cases h) (λ K h=>by cases h)
theorem atU:er bk 121 adI:=e0 ⟨by kernel_rfl,trivial⟩ (λ _=>rfl) (λ h=>by rfl) (λ K h=>by cases h)
theorem aul:er bk 28 ad2:=e0 ⟨by kernel_rfl,trivial⟩ (λ _=>rfl) (λ h=>by rfl) (λ K h=>by cases h)
theorem aun:er bk 30 ad3:=e0 ⟨by kernel_rfl,by kernel_rfl,by kernel_rfl,by kernel_rfl,by kernel_rfl,trivial⟩ (λ _=>rfl) (λ h=>by cases h) (λ K h=>by cases h)
theorem auo:er bk 31 ad4:=e0 trivial (λ _=>rfl) (λ h=>by rfl) (λ K h F w xs k a=>by cases h;obtain⟨v,vs,rfl,b,rfl⟩:=a;exact b)
theorem aus:er bk 69 ad5:=e0 ⟨by kernel_rfl,by kernel_rfl,by kernel_rfl,by kernel_rfl,by kernel_rfl,trivial⟩ (λ _=>rfl) (λ h=>by cases h) (λ K h=>by cases h)
theorem atW:er bk 126 adK:=e0 ⟨by kernel_rfl,trivial⟩ (λ _=>rfl) (λ h=>by rfl) (λ K h=>by cases h)
theorem atY:er bk 129 adL:=e0 ⟨by kernel_rfl,trivial⟩ (λ _=>rfl) (λ h=>by rfl) (λ K h=>by cases h)
theorem at1:er bk 132 adN:=e0 ⟨by kernel_rfl,trivial⟩ (λ _=>rfl) (λ h=>by rfl) (λ K h=>by cases h)
theorem at9:er bk 192 adP:=e0 trivial (λ _=>rfl) (λ h=>by rfl) (λ K h F w xs k a=>by cases h;obtain⟨v,vs,rfl,b,rfl⟩:=a;exact b)
theorem at':er bk 202 adQ:=e0 ⟨by kernel_rfl,trivial⟩ (λ _=>rfl) (λ h=>by rfl) (λ K h=>by cases h)
theorem aua:er bk 204 adR:=e0 ⟨by kernel_rfl,trivial⟩ (λ _=>rfl) (λ h=>by rfl) (λ K h=>by cases h)
theorem aub:er bk 219 adT:=e0 trivial (λ _=>rfl) (λ h=>by rfl) (λ K h=>by cases h)
theorem aud:er bk 220 adV:=e0 trivial (λ _=>rfl) (λ h=>by rfl) (λ K h=>by cases h)
theorem aue:er bk 223 adW:=e0 trivial (λ _=>rfl) (λ h=>by rfl) (λ K h=>by cases h)
theorem auf:er bk 224 adX:=e0 trivial (λ _=>rfl) (λ h=>by rfl) (λ K h=>by cases h)
theorem akA:yT bk:=aGZ ⟨atO,auf,aue,aud,aub,aua,at',at9,at1,atY,atW,aus,auo,aun,aul,atU,at7,auk,atT,auj,atV,aui,at2,at0,at5,atX,at3,auh,aug,auc,atQ,atP,auu,aut,aur,auq,aup,aum,trivial⟩
end Go.Proofs.YteeliipnilghaaaGreat
namespace Go.Proofs.YteeliipnilghaaaGreat
open Go Go.RowKit aq I a8
noncomputable def aB:Env:=⟨Tryz.prog,bk,[],false,(dy 174).drop 2,5,λ l=>l⟩
noncomputable def lK:Env:=⟨Tryz.prog,bk,[],true,(dy 174).drop 2,5,λ l=>l⟩
noncomputable def iU:cK aB:=⟨[],[]⟩
theorem aC2(aZ:cX aB)(h:iU.Ok):(iU.f 37 ((mg aB.T 3 8).run aB)).Ok:=h.KD aZ rfl rfl (by kernel_rfl) (λ a c=>by kernel_rfl) λ d l=>by kernel_rfl
noncomputable def Bv:cK aB:=iU.f 37 ((mg aB.T 3 8).run aB)
theorem aC3(aZ:cX aB)(h:Bv.Ok):(Bv.f 108 ((mg aB.T 136 40).run aB)).Ok:=h.KD aZ rfl rfl (by kernel_rfl) (λ a c=>by kernel_rfl) λ d l=>by kernel_rfl
noncomputable def ri:cK aB:=Bv.f 108 ((mg aB.T 136 40).run aB)
theorem aC4(aZ:cX aB)(h:ri.Ok):(ri.f 109 ((mg aB.T 131 128).run aB)).Ok:=h.KD aZ rfl rfl (by kernel_rfl) (λ a c=>by kernel_rfl) λ d l=>by kernel_rfl
noncomputable def RS:cK aB:=ri.f 109 ((mg aB.T 131 128).run aB)
theorem aC5(aZ:cX aB)(h:RS.Ok):(RS.f 110 ((mg aB.T 128 24).run aB)).Ok:=h.KD aZ rfl rfl (by kernel_rfl) (λ a c=>by kernel_rfl) λ d l=>by kernel_rfl
noncomputable def RT:cK aB:=RS.f 110 ((mg aB.T 128 24).run aB)
theorem aC6(aZ:cX aB)(h:RT.Ok):(RT.f 111 ((mg aB.T 157 40).run aB)).Ok:=h.KD aZ rfl rfl (by kernel_rfl) (λ a c=>by kernel_rfl) λ d l=>by kernel_rfl
noncomputable def an8:cK aB:=RT.f 111 ((mg aB.T 157 40).run aB)
end Go.Proofs.YteeliipnilghaaaGreat
namespace Go.Proofs.YteeliipnilghaaaGreat
open Go Go.RowKit aq I a8
theorem aDG:By Tryz.prog bk 136 S7:=by
 intro f ad F w xs ys d e h hy o a x y t' b ap c g w';obtain rfl:=dT ad;obtain⟨_,_,rfl,rfl,_,_,rfl,rfl,_,_,rfl,rfl,rfl⟩:=h;obtain⟨_,_,rfl,rfl,_,_,rfl,rfl,_,_,rfl,rfl,rfl⟩:=hy;cases b
 ·exact au7 ap c g
 ·exact au3 ap c g
theorem aDF:By Tryz.prog bk 128 S6:=by
 intro f ad F w xs ys d e h hy o a x y t' b ap c g w';obtain rfl:=dT ad;obtain⟨_,_,rfl,rfl,_,_,rfl,rfl,rfl⟩:=h;obtain⟨_,_,rfl,rfl,_,_,rfl,rfl,rfl⟩:=hy;cases b
 ·exact au9 ap c g
 ·exact au5 ap c g
theorem aDH:By Tryz.prog bk 157 S8:=by
 intro f ad F w xs ys d e h hy o a x y t' b ap c g w';obtain rfl:=dT ad;obtain⟨_,_,rfl,rfl,_,_,rfl,rfl,_,_,rfl,rfl,_,_,rfl,rfl,rfl⟩:=h;obtain⟨_,_,rfl,rfl,_,_,rfl,rfl,_,_,rfl,rfl,_,_,rfl,rfl,rfl⟩:=hy;cases b
 ·exact au8 ap c g
 ·exact au4 ap c g
theorem aDI:By Tryz.prog bk 166 S9:=by
 intro f ad F w xs ys d e h hy o a x y t' b ap c g w';obtain rfl:=dT ad;obtain⟨_,_,rfl,rfl,_,_,rfl,rfl,rfl⟩:=h;obtain⟨_,_,rfl,rfl,_,_,rfl,rfl,rfl⟩:=hy;cases b
 ·exact au_ ap c g
 ·exact au6 ap c g
theorem aee:Tf Tryz.prog bk bk.es:=⟨fv rfl,fv rfl,fv rfl,fv rfl,fv rfl,fv rfl,fv rfl,fv rfl,fv rfl,fv rfl,fv rfl,fv rfl,fv rfl,fv rfl,fv rfl,fv rfl,aDI,fv rfl,fv rfl,fv rfl,fv rfl,fv rfl,fv rfl,fv rfl,aDH,aDF,aDG,fv rfl,fv rfl,fv rfl,fv rfl,fv rfl,fv rfl,fv rfl,fv rfl,fv rfl,fv rfl,fv rfl,trivial⟩
theorem afi:Pq Tryz.prog aB.b7=true:=by kernel_rfl
theorem acM(F:Nat->Prop)(w:World)(l:List UInt8)(xs:List Value)(h:dx Qu F w xs l):dx (bk.ty 5) F w xs l:=by
 refine PS (A:=Qu) (B:=bk.ty 5) (λ cs d h=>?_) h;change eZ (λ t=>(fD Tj t).ty) F w [.y] cs (d,());exact⟨_,_,h,rfl,rfl⟩
theorem jH:cX aB:=⟨akA,λ f ad=>aiB (XI afi ad),by kernel_rfl,λ l=>rfl,acM,λ t=>Td aee⟩
theorem MZ:cX lK:=⟨akA,λ f ad=>aiB (XI afi ad),by kernel_rfl,λ l=>rfl,acM,λ t=>Td aee⟩
end Go.Proofs.YteeliipnilghaaaGreat
namespace I
def fL(dg:Int)(a:Int)(b:Int):Option (Bool):=
 some ((decide (a<=dg))&&(decide (dg<=b)))
def mM(dg:Int)(a:Int)(b:Int):Option (Bool):=
 some ((decide (a<=dg))&&(decide (dg<=b)))
def Oc(a:Int):Option (Bool):=
 some ((decide (a=3))||(decide (a=4)))
def Dg(b:List UInt8):Nat->Int->Option (Way (Bool) (Unit))
 |0,_=>none
 |bL+1,c=>
  cond (decide (c<(b.length:Int))) ((idx b c).bind λ a=>
  cond (((((decide ((a.toNat:Int)<97))||(decide (122<(a.toNat:Int))))&&((decide ((a.toNat:Int)<65))||(decide (90<(a.toNat:Int)))))&&((decide ((a.toNat:Int)<48))||(decide (57<(a.toNat:Int)))))&&(!decide ((a.toNat:Int)=95))) (some (.out false)) (Dg b bL (ar (c+1)))) (some (.go ()))
def n9(F:Nat)(s_:List UInt8):Option (Bool):=
 (bytesOf s_).bind λ a=>
 ca (α:=Unit) (Dg a F 0) λ(_:Unit)=>
 some ((!decide (s_=[]))&&(decide ((s_.length:Int)<=20)))
def wY(F:Nat)(a:Kind):Option (Bool):=
 (Oc a.Kind).bind λ b=>
 cond (b) ((n9 F a.ak).bind λ c=>
 some c) (some (((decide (a.Kind=1))||(decide (a.Kind=2)))&&(decide (a.ak=[]))))
def tj(s_:List UInt8):Nat->Int->Option (Way (Bool) (Unit))
 |0,_=>none
 |bL+1,a=>
  cond (decide (a<(s_.length:Int))) ((idx s_ a).bind λ Ct=>
  cond (!(((((decide (97<=(Ct.toNat:Int)))&&(decide ((Ct.toNat:Int)<=122)))||((decide (65<=(Ct.toNat:Int)))&&(decide ((Ct.toNat:Int)<=90))))||((decide (48<=(Ct.toNat:Int)))&&(decide ((Ct.toNat:Int)<=57))))||(decide ((Ct.toNat:Int)=95)))) (some (.out false)) (tj s_ bL (ar (a+1)))) (some (.go ()))
def oP(F:Nat)(s_:List UInt8):Option (Bool):=
 ca (α:=Unit) (tj s_ F 0) λ(_:Unit)=>
 some ((decide (1<=(s_.length:Int)))&&(decide ((s_.length:Int)<=20)))
def vM(F:Nat)(a:Kind):Option (Bool):=
 cond ((decide (a.Kind=1))||(decide (a.Kind=2))) (some (decide (a.ak=[]))) (cond ((decide (a.Kind=3))||(decide (a.Kind=4))) ((oP F a.ak).bind λ b=>
 some b) (some false))
end I
namespace I
def zD(F:Nat)(b:Method):Nat->Int->Option (Way (Int) (Unit))
 |0,_=>none
 |bL+1,c=>
  cond (decide (c<(b.cr.length:Int))) ((idx b.cr c).bind λ a=>
  (wY F (⟨a.Kind,a.ak⟩:Kind)).bind λ d=>
  cond (!d) (some (.out 7)) (zD F b bL (ar (c+1)))) (some (.go ()))
def Dk(F:Nat)(b:Method):Nat->Int->Option (Way (Int) (Unit))
 |0,_=>none
 |et+1,c=>
  cond (decide (c<(b.cy.length:Int))) ((idx b.cy c).bind λ a=>
  (n9 F a.ak).bind λ d=>
  cond (!d) (some (.out 1)) ((mM a.From 0 200).bind λ e=>
  cond (!e) (some (.out 3)) ((mM a.To 0 200).bind λ f=>
  cond (!f) (some (.out 3)) ((mM a.At 0 200).bind λ g=>
  cond (!g) (some (.out 3)) (Dk F b et (ar (c+1))))))) (some (.go ()))
def r6(F:Nat)(b:Method):Nat->Int->Option (Way (Int) (Unit))
 |0,_=>none
 |ht+1,c=>
  cond (decide (c<(b.cy.length:Int))) ((idx b.cy c).bind λ a=>
  (n9 F a.ak).bind λ d=>
  cond (!d) (some (.out 1)) ((mM a.From 0 200).bind λ e=>
  cond (!e) (some (.out 3)) ((mM a.To 0 200).bind λ f=>
  cond (!f) (some (.out 3)) ((mM a.At 0 200).bind λ g=>
  cond (!g) (some (.out 3)) (r6 F b ht (ar (c+1))))))) (some (.go ()))
def Dj(F:Nat)(a:Method):Option (Int):=
 (n9 F a.Name).bind λ c=>
 cond (!c) (some 1) (cond (((decide (4<(a.cr.length:Int)))||(decide (200<(a.Code.length:Int))))||(decide (4<(a.cy.length:Int)))) (some 2) ((mM a.hJ 0 10).bind λ d=>
 cond (!d) (some 3) ((mM a.hG 0 10).bind λ e=>
 cond (!e) (some 3) (ca (α:=Unit) (zD F a F 0) λ(_:Unit)=>
 cond (!decide ((⟨a.Returns.Kind,a.Returns.ak⟩:Kind)=(⟨0,[]⟩:Kind))) ((wY F (⟨a.Returns.Kind,a.Returns.ak⟩:Kind)).bind λ b=>
 cond (!b) (some 7) (ca (α:=Unit) (Dk F a F 0) λ(_:Unit)=>
 some 0)) (ca (α:=Unit) (r6 F a F 0) λ(_:Unit)=>
 some 0)))))
def Dh(F:Nat)(c_:ak):Nat->Int->Option (Way (Int) (Unit))
 |0,_=>none
 |bL+1,b=>
  cond (decide (b<(c_.Fields.length:Int))) ((idx c_.Fields b).bind λ a=>
  (n9 F a.Name).bind λ c=>
  cond (!c) (some (.out 1)) ((wY F (⟨a.Kind.Kind,a.Kind.ak⟩:Kind)).bind λ d=>
  cond (!d) (some (.out 7)) (Dh F c_ bL (ar (b+1))))) (some (.go ()))
def Di(F:Nat)(c_:ak):Nat->Int->Option (Way (Int) (Unit))
 |0,_=>none
 |et+1,b=>
  cond (decide (b<(c_.bf.length:Int))) ((idx c_.bf b).bind λ a=>
  (Dj F (⟨a.Name,a.Static,a.cr,(⟨a.Returns.Kind,a.Returns.ak⟩:Kind),a.hJ,a.hG,a.Code,a.cy⟩:Method)).bind λ c=>
  cond (!decide (c=0)) (some (.out c)) (Di F c_ et (ar (b+1)))) (some (.go ()))
def wX(F:Nat)(c_:ak):Nat->Int->Option (Way (Int) (Unit))
 |0,_=>none
 |ht+1,b=>
  cond (decide (b<(c_.Fields.length:Int))) ((idx c_.Fields b).bind λ a=>
  (n9 F a.Name).bind λ c=>
  cond (!c) (some (.out 1)) ((wY F (⟨a.Kind.Kind,a.Kind.ak⟩:Kind)).bind λ d=>
  cond (!d) (some (.out 7)) (wX F c_ ht (ar (b+1))))) (some (.go ()))
def r5(F:Nat)(c_:ak):Nat->Int->Option (Way (Int) (Unit))
 |0,_=>none
 |l4+1,c=>
  cond (decide (c<(c_.bf.length:Int))) ((idx c_.bf c).bind λ a=>
  (Dj F (⟨a.Name,a.Static,a.cr,(⟨a.Returns.Kind,a.Returns.ak⟩:Kind),a.hJ,a.hG,a.Code,a.cy⟩:Method)).bind λ b=>
  cond (!decide (b=0)) (some (.out b)) (r5 F c_ l4 (ar (c+1)))) (some (.go ()))
def JM(F:Nat)(c_:ak):Option (Int):=
 (n9 F c_.Name).bind λ a=>
 cond (!a) (some 1) (cond (!decide (c_.cR=[])) ((n9 F c_.cR).bind λ b=>
 cond (!b) (some 1) (cond ((decide (6<(c_.Fields.length:Int)))||(decide (8<(c_.bf.length:Int)))) (some 2) (ca (α:=Unit) (Dh F c_ F 0) λ(_:Unit)=>
 ca (α:=Unit) (Di F c_ F 0) λ(_:Unit)=>
 some 0))) (cond ((decide (6<(c_.Fields.length:Int)))||(decide (8<(c_.bf.length:Int)))) (some 2) (ca (α:=Unit) (wX F c_ F 0) λ(_:Unit)=>
 ca (α:=Unit) (r5 F c_ F 0) λ(_:Unit)=>
 some 0)))
def zC(F:Nat)(c:List ak):Nat->Int->Option (Way (Int) (Unit))
 |0,_=>none
 |bL+1,d=>
  cond (decide (d<(c.length:Int))) ((idx c d).bind λ b=>
  (JM F (⟨b.Name,b.cR,b.Fields,b.bf⟩:ak)).bind λ a=>
  cond (!decide (a=0)) (some (.out a)) (zC F c bL (ar (d+1)))) (some (.go ()))
def JL(F:Nat)(a:List ak):Option (Int):=
 cond (decide (10<(a.length:Int))) (some 2) (ca (α:=Unit) (zC F a F 0) λ(_:Unit)=>
 some 0)
def BS(F:Nat)(a:Method):Nat->Int->Option (Way (Int) (Unit))
 |0,_=>none
 |bL+1,b=>
  cond (decide (b<(a.cr.length:Int))) ((idx a.cr b).bind λ c=>
  (vM F c).bind λ d=>
  cond (!d) (some (.out 7)) (BS F a bL (ar (b+1)))) (some (.go ()))
def BT(F:Nat)(b:Method):Nat->Int->Option (Way (Int) (Unit))
 |0,_=>none
 |et+1,c=>
  cond (decide (c<(b.cy.length:Int))) ((idx b.cy c).bind λ a=>
  (oP F a.ak).bind λ d=>
  cond (!d) (some (.out 1)) ((fL a.From 0 200).bind λ e=>
  cond (!e) (some (.out 3)) ((fL a.To 0 200).bind λ f=>
  cond (!f) (some (.out 3)) ((fL a.At 0 200).bind λ g=>
  cond (!g) (some (.out 3)) (BT F b et (ar (c+1))))))) (some (.go ()))
def BR(F:Nat)(a:Method):Option (Int):=
 (oP F a.Name).bind λ c=>
 cond (!c) (some 1) (cond (((decide (4<(a.cr.length:Int)))||(decide (200<(a.Code.length:Int))))||(decide (4<(a.cy.length:Int)))) (some 2) ((fL a.hJ 0 10).bind λ d=>
 cond (!d) (some 3) ((fL a.hG 0 10).bind λ e=>
 cond (!e) (some 3) (ca (α:=Unit) (BS F a F 0) λ(_:Unit)=>
 (vM F (⟨a.Returns.Kind,a.Returns.ak⟩:Kind)).bind λ b=>
 cond ((!b)&&((!decide (a.Returns.Kind=0))||(!decide (a.Returns.ak=[])))) (some 7) (ca (α:=Unit) (BT F a F 0) λ(_:Unit)=>
 some 0)))))
def E5(F:Nat)(b:ak):Nat->Int->Option (Way (Int) (Unit))
 |0,_=>none
 |et+1,Pa=>
  cond (decide (Pa<(b.Fields.length:Int))) ((idx b.Fields Pa).bind λ c=>
  (oP F c.Name).bind λ d=>
  cond (!d) (some (.out 1)) ((idx b.Fields Pa).bind λ a=>
  (vM F (⟨a.Kind.Kind,a.Kind.ak⟩:Kind)).bind λ e=>
  cond (!e) (some (.out 7)) (E5 F b et (ar (Pa+1))))) (some (.go ()))
def E6(F:Nat)(b:ak):Nat->Int->Option (Way (Int) (Unit))
 |0,_=>none
 |ht+1,c=>
  cond (decide (c<(b.bf.length:Int))) ((idx b.bf c).bind λ d=>
  (BR F d).bind λ a=>
  cond (!decide (a=0)) (some (.out a)) (E6 F b ht (ar (c+1)))) (some (.go ()))
def yD(F:Nat)(b:ak):Nat->Int->Option (Way (Int) (Unit))
 |0,_=>none
 |l4+1,c=>
  cond (decide (c<(b.Fields.length:Int))) ((idx b.Fields c).bind λ d=>
  (oP F d.Name).bind λ e=>
  cond (!e) (some (.out 1)) ((idx b.Fields c).bind λ a=>
  (vM F (⟨a.Kind.Kind,a.Kind.ak⟩:Kind)).bind λ f=>
  cond (!f) (some (.out 7)) (yD F b l4 (ar (c+1))))) (some (.go ()))
def yE(F:Nat)(b:ak):Nat->Int->Option (Way (Int) (Unit))
 |0,_=>none
 |tY+1,c=>
  cond (decide (c<(b.bf.length:Int))) ((idx b.bf c).bind λ d=>
  (BR F d).bind λ a=>
  cond (!decide (a=0)) (some (.out a)) (yE F b tY (ar (c+1)))) (some (.go ()))
def BC(F:Nat)(b:List ak):Nat->Int->Option (Way (Int) (Unit))
 |0,_=>none
 |bL+1,c=>
  cond (decide (c<(b.length:Int))) (cU (α:=Unit) ((idx b c).bind λ a=>
  (oP F a.Name).bind λ d=>
  cond (!d) (some (.out 1)) (cond (!decide (a.cR=[])) ((oP F a.cR).bind λ e=>
  cond (!e) (some (.out 1)) (cond ((decide (6<(a.Fields.length:Int)))||(decide (8<(a.bf.length:Int)))) (some (.out 2)) (cU (α:=Unit) (E5 F a F 0) λ(_:Unit)=>
  cU (α:=Unit) (E6 F a F 0) λ(_:Unit)=>
  some (.go ())))) (cond ((decide (6<(a.Fields.length:Int)))||(decide (8<(a.bf.length:Int)))) (some (.out 2)) (cU (α:=Unit) (yD F a F 0) λ(_:Unit)=>
  cU (α:=Unit) (yE F a F 0) λ(_:Unit)=>
  some (.go ()))))) λ(_:Unit)=>
  BC F b bL (ar (c+1))) (some (.go ()))
def H2(F:Nat)(a:List ak):Option (Int):=
 cond (decide (10<(a.length:Int))) (some 2) (ca (α:=Unit) (BC F a F 0) λ(_:Unit)=>
 some 0)
end I
namespace I
def pX(b:List Kind)(c:List Kind):Nat->Int->Option (Way (Bool) (Unit))
 |0,_=>none
 |bL+1,a=>
  cond (decide (a<(b.length:Int))) ((idx b a).bind λ d=>
  (idx c a).bind λ e=>
  cond (!decide (d=e)) (some (.out false)) (pX b c bL (ar (a+1)))) (some (.go ()))
def vO(F:Nat)(a:List Kind)(b:List Kind):Option (Bool):=
 cond (!decide ((a.length:Int)=(b.length:Int))) (some false) (ca (α:=Unit) (pX a b F 0) λ(_:Unit)=>
 some true)
def B7(b:List Field)(c:List Field):Nat->Int->Option (Way (Bool) (Unit))
 |0,_=>none
 |bL+1,a=>
  cond (decide (a<(b.length:Int))) ((idx b a).bind λ d=>
  (idx c a).bind λ e=>
  cond (!decide (d=e)) (some (.out false)) (B7 b c bL (ar (a+1)))) (some (.go ()))
def E'(F:Nat)(a:List Field)(b:List Field):Option (Bool):=
 cond (!decide ((a.length:Int)=(b.length:Int))) (some false) (ca (α:=Unit) (B7 a b F 0) λ(_:Unit)=>
 some true)
def B6(b:Method)(e:Method):Nat->Int->Option (Way (Bool) (Unit))
 |0,_=>none
 |ht+1,a=>
  cond (decide (a<(b.cy.length:Int))) ((idx b.cy a).bind λ c=>
  (idx e.cy a).bind λ d=>
  cond (!decide (c=d)) (some (.out false)) (B6 b e ht (ar (a+1)))) (some (.go ()))
def B5(F:Nat)(d:ak)(f:ak):Nat->Int->Option (Way (Bool) (Unit))
 |0,_=>none
 |et+1,c=>
  cond (decide (c<(d.bf.length:Int))) (cU (α:=Unit) ((idx d.bf c).bind λ a=>
  (idx f.bf c).bind λ b=>
  cond ((!decide (a.Name=b.Name))||(!(a.Static==b.Static))) (some (.out false)) ((vO F a.cr b.cr).bind λ e=>
  cond (!e) (some (.out false)) (cond (((((!decide ((⟨a.Returns.Kind,a.Returns.ak⟩:Kind)=(⟨b.Returns.Kind,b.Returns.ak⟩:Kind)))||(!decide (a.hJ=b.hJ)))||(!decide (a.hG=b.hG)))||(!decide (a.Code=b.Code)))||(!decide ((a.cy.length:Int)=(b.cy.length:Int)))) (some (.out false)) (cU (α:=Unit) (B6 a b F 0) λ(_:Unit)=>
  some (.go ()))))) λ(_:Unit)=>
  B5 F d f et (ar (c+1))) (some (.go ()))
def B4(F:Nat)(d:List ak)(f:List ak):Nat->Int->Option (Way (Bool) (Unit))
 |0,_=>none
 |bL+1,c=>
  cond (decide (c<(d.length:Int))) (cU (α:=Unit) ((idx d c).bind λ a=>
  (idx f c).bind λ b=>
  cond ((!decide (a.Name=b.Name))||(!decide (a.cR=b.cR))) (some (.out false)) ((E' F a.Fields b.Fields).bind λ e=>
  cond ((!e)||(!decide ((a.bf.length:Int)=(b.bf.length:Int)))) (some (.out false)) (cU (α:=Unit) (B5 F a b F 0) λ(_:Unit)=>
  some (.go ())))) λ(_:Unit)=>
  B4 F d f bL (ar (c+1))) (some (.go ()))
def E_(F:Nat)(a:List ak)(b:List ak):Option (Bool):=
 cond (!decide ((a.length:Int)=(b.length:Int))) (some false) (ca (α:=Unit) (B4 F a b F 0) λ(_:Unit)=>
 some true)
def yO(b:aP)(e:aP):Nat->Int->Option (Way (Bool) (Unit))
 |0,_=>none
 |bL+1,a=>
  cond (decide (a<(b.aW.length:Int))) ((idx b.aW a).bind λ c=>
  (idx e.aW a).bind λ d=>
  cond (!decide (c=d)) (some (.out false)) (yO b e bL (ar (a+1)))) (some (.go ()))
def B9(F:Nat)(b:aP)(f:aP):Nat->Int->Option (Way (Bool) (Unit))
 |0,_=>none
 |et+1,a=>
  cond (decide (a<(b.Fields.length:Int))) ((idx b.Fields a).bind λ c=>
  (idx f.Fields a).bind λ d=>
  (E' F c d).bind λ e=>
  cond (!e) (some (.out false)) (B9 F b f et (ar (a+1)))) (some (.go ()))
def Ca(c:aP)(i:aP)(a:Int):Nat->Int->Option (Way (Bool) (Unit))
 |0,_=>none
 |l4+1,b=>
  (idx c.Names a).bind λ d=>
  cond (decide (b<(d.length:Int))) ((idx c.Names a).bind λ e=>
  (idx e b).bind λ f=>
  (idx i.Names a).bind λ g=>
  (idx g b).bind λ h=>
  cond (!decide (f=h)) (some (.out false)) (Ca c i a l4 (ar (b+1)))) (some (.go ()))
def B_(F:Nat)(b:aP)(c:aP):Nat->Int->Option (Way (Bool) (Unit))
 |0,_=>none
 |ht+1,a=>
  cond (decide (a<(b.Names.length:Int))) (cU (α:=Unit) ((idx b.Names a).bind λ d=>
  (idx c.Names a).bind λ e=>
  cond (!decide ((d.length:Int)=(e.length:Int))) (some (.out false)) (cU (α:=Unit) (Ca b c a F 0) λ(_:Unit)=>
  some (.go ()))) λ(_:Unit)=>
  B_ F b c ht (ar (a+1))) (some (.go ()))
def Cc(c:aP)(i:aP)(a:Int):Nat->Int->Option (Way (Bool) (Unit))
 |0,_=>none
 |zF+1,b=>
  (idx c.aX a).bind λ d=>
  cond (decide (b<(d.length:Int))) ((idx c.aX a).bind λ e=>
  (idx e b).bind λ f=>
  (idx i.aX a).bind λ g=>
  (idx g b).bind λ h=>
  cond (!decide (f=h)) (some (.out false)) (Cc c i a zF (ar (b+1)))) (some (.go ()))
def Cb(F:Nat)(b:aP)(c:aP):Nat->Int->Option (Way (Bool) (Unit))
 |0,_=>none
 |tY+1,a=>
  cond (decide (a<(b.aX.length:Int))) (cU (α:=Unit) ((idx b.aX a).bind λ d=>
  (idx c.aX a).bind λ e=>
  cond (!decide ((d.length:Int)=(e.length:Int))) (some (.out false)) (cU (α:=Unit) (Cc b c a F 0) λ(_:Unit)=>
  some (.go ()))) λ(_:Unit)=>
  Cb F b c tY (ar (a+1))) (some (.go ()))
def Fa(F:Nat)(a:aP)(b:aP):Option (Bool):=
 (E_ F a.aY b.aY).bind λ c=>
 cond (((((!c)||(!decide ((b.aW.length:Int)=(a.aW.length:Int))))||(!decide ((a.Fields.length:Int)=(b.Fields.length:Int))))||(!decide ((a.Names.length:Int)=(b.Names.length:Int))))||(!decide ((a.aX.length:Int)=(b.aX.length:Int)))) (some false) (ca (α:=Unit) (yO a b F 0) λ(_:Unit)=>
 ca (α:=Unit) (B9 F a b F 0) λ(_:Unit)=>
 ca (α:=Unit) (B_ F a b F 0) λ(_:Unit)=>
 ca (α:=Unit) (Cb F a b F 0) λ(_:Unit)=>
 some true)
def BU(a:List ak)(c:List UInt8):Nat->Int->Option (Way (Int) (Unit))
 |0,_=>none
 |bL+1,Pb=>
  cond (decide (Pb<(a.length:Int))) ((idx a Pb).bind λ b=>
  cond (decide (b.Name=c)) (some (.out Pb)) (BU a c bL (ar (Pb+1)))) (some (.go ()))
def oO(F:Nat)(a:List ak)(b:List UInt8):Option (Int):=
 ca (α:=Unit) (BU a b F 0) λ(_:Unit)=>
 some (-1)
def Ch(F:Nat)(a:List ak):Nat->Int->(List Int)->Option (Way (List Int) (List Int))
 |0,_,_=>none
 |bL+1,b,c=>
  cond (decide (0<=b)) (cond (decide ((a.length:Int)<(c.length:Int))) (some (.out [])) ((bD 8 [b] c).bind λ d=>
  (idx a b).bind λ e=>
  (oO F a e.cR).bind λ f=>
  Ch F a bL f d)) (some (.go c))
def yR(F:Nat)(b:List ak)(dg:Int):Option (List Int):=
 ca (α:=List Int) (Ch F b F dg []) λ(a:List Int)=>
 some a
def yQ(F:Nat)(a:List Kind)(c:List ak):Nat->Int->Option (Way (Bool) (Unit))
 |0,_=>none
 |bL+1,b=>
  cond (decide (b<(a.length:Int))) ((idx a b).bind λ d=>
  cond (!decide (d.ak=[])) ((idx a b).bind λ e=>
  (oO F c e.ak).bind λ f=>
  cond (decide (f<0)) (some (.out false)) (yQ F a c bL (ar (b+1)))) (yQ F a c bL (ar (b+1)))) (some (.go ()))
def Cg(F:Nat)(a:List ak)(b:List Kind):Option (Bool):=
 ca (α:=Unit) (yQ F b a F 0) λ(_:Unit)=>
 some true
def td(f:List ak)(b:List Int):Nat->(List Field)->Int->Option (List Field)
 |0,_,_=>none
 |bL+1,a,Xk=>
  cond (decide (Xk<(b.length:Int))) ((idx b Xk).bind λ c=>
  (idx f c).bind λ d=>
  (bD 40 a d.Fields).bind λ e=>
  td f b bL e (ar (Xk+1))) (some a)
def BB(F:Nat)(b:List ak)(dg:Int):Option (List Field):=
 (yR F b dg).bind λ c=>
 dB (α:=List Field) (td b c F [] 0) λ(a:List Field)=>
 some a
def rp(b:List (List UInt8))(d:Method):Nat->Int->Option (Int)
 |0,_=>none
 |ht+1,a=>
  cond (decide (a<(b.length:Int))) ((idx b a).bind λ c=>
  cond (!decide (c=d.Name)) (rp b d ht (ar (a+1))) (some a)) (some a)
def Cf(F:Nat)(f:List ak)(c:List Int)(d:Int):Nat->(List Target)->(List (List UInt8))->Int->Option ((List Target)×(List (List UInt8)))
 |0,_,_,_=>none
 |et+1,g,a,e=>
  (idx c d).bind λ h=>
  (idx f h).bind λ i=>
  cond (decide (e<(i.bf.length:Int))) (dB (α:=(List Target)×(List (List UInt8))) ((idx c d).bind λ j=>
  (idx f j).bind λ k=>
  (idx k.bf e).bind λ t=>
  dB (α:=Int) (rp a t F 0) λ(l:Int)=>
  dB (α:=(List Target)×(List (List UInt8))) (cond (decide (l=(a.length:Int))) ((bD 16 a [t.Name]).bind λ m=>
  (bD 16 g [(⟨0,0⟩:Target)]).bind λ n=>
  some (n,m)) (some (g,a))) λ((b,o):(List Target)×(List (List UInt8)))=>
  (idx c d).bind λ p=>
  (idx b l).bind λ u=>
  (some (b.set (l).toNat (⟨p,e⟩:Target))).bind λ q=>
  some (q,o)) λ((r,s):(List Target)×(List (List UInt8)))=>
  Cf F f c d et r s (ar (e+1))) (some (g,a))
def Cd(F:Nat)(i:List ak)(c:List Int):Nat->(List Target)->(List (List UInt8))->Int->Option ((List Target)×(List (List UInt8)))
 |0,_,_,_=>none
 |bL+1,a,b,d=>
  cond (decide (d<(c.length:Int))) (dB (α:=(List Target)×(List (List UInt8))) (dB (α:=(List Target)×(List (List UInt8))) (Cf F i c d F a b 0) λ((e,f):(List Target)×(List (List UInt8)))=>
  some (e,f)) λ((g,h):(List Target)×(List (List UInt8)))=>
  Cd F i c bL g h (ar (d+1))) (some (a,b))
def H_(F:Nat)(c:List ak)(dg:Int):Option ((List (List UInt8))×(List Target)):=
 (yR F c dg).bind λ d=>
 dB (α:=(List Target)×(List (List UInt8))) (Cd F c d F [] [] 0) λ((a,b):(List Target)×(List (List UInt8)))=>
 some (b,a)
end I
namespace I
def vJ(F:Nat)(a:List ak):Nat->Int->Option (Way (Int) (Unit))
 |0,_=>none
 |bL+1,b=>
  cond (decide (b<(a.length:Int))) ((idx a b).bind λ c=>
  (oO F a c.Name).bind λ d=>
  cond (!decide (d=b)) (some (.out 6)) (vJ F a bL (ar (b+1)))) (some (.go ()))
def BL(a:List ak):Nat->Int->Option (Way (Int) (Unit))
 |0,_=>none
 |et+1,b=>
  cond (decide (b<(a.length:Int))) ((idx a b).bind λ c=>
  (idx a b).bind λ d=>
  cond (!((decide (c.Name=[79,98,106,101,99,116]))==(decide (d.cR=[])))) (some (.out 4)) (BL a et (ar (b+1)))) (some (.go ()))
def yI(F:Nat)(a:List ak):Nat->Int->Option (Way (Int) (Unit))
 |0,_=>none
 |ht+1,b=>
  cond (decide (b<(a.length:Int))) ((idx a b).bind λ c=>
  cond (!decide (c.cR=[])) ((idx a b).bind λ d=>
  (oO F a d.cR).bind λ e=>
  cond (decide (e<0)) (some (.out 5)) (yI F a ht (ar (b+1)))) (yI F a ht (ar (b+1)))) (some (.go ()))
def BM(F:Nat)(a:List ak):Nat->Int->Option (Way (Int) (Unit))
 |0,_=>none
 |l4+1,b=>
  cond (decide (b<(a.length:Int))) ((yR F a b).bind λ c=>
  cond (decide ((c.length:Int)=0)) (some (.out 4)) (BM F a l4 (ar (b+1)))) (some (.go ()))
def BN(F:Nat)(b:List ak)(c:Int):Nat->Int->Option (Way (Int) (Unit))
 |0,_=>none
 |zF+1,d=>
  (idx b c).bind λ e=>
  cond (decide (d<(e.Fields.length:Int))) ((idx b c).bind λ f=>
  (idx f.Fields d).bind λ a=>
  (Cg F b [(⟨a.Kind.Kind,a.Kind.ak⟩:Kind)]).bind λ g=>
  cond (!g) (some (.out 5)) (BN F b c zF (ar (d+1)))) (some (.go ()))
def BP(F:Nat)(e:List ak)(a:Method):Nat->Int->Option (Way (Int) (Unit))
 |0,_=>none
 |Ww+1,b=>
  cond (decide (b<(a.cy.length:Int))) ((idx a.cy b).bind λ c=>
  (oO F e c.ak).bind λ d=>
  cond (decide (d<0)) (some (.out 5)) (BP F e a Ww (ar (b+1)))) (some (.go ()))
def BO(F:Nat)(a:List ak)(c:Int):Nat->Int->Option (Way (Int) (Unit))
 |0,_=>none
 |Oo+1,d=>
  (idx a c).bind λ e=>
  cond (decide (d<(e.bf.length:Int))) (cU (α:=Unit) ((idx a c).bind λ f=>
  (idx f.bf d).bind λ b=>
  (Cg F a b.cr).bind λ g=>
  cond (!g) (some (.out 5)) ((Cg F a [(⟨b.Returns.Kind,b.Returns.ak⟩:Kind)]).bind λ h=>
  cond (!h) (some (.out 5)) (cU (α:=Unit) (BP F a b F 0) λ(_:Unit)=>
  some (.go ())))) λ(_:Unit)=>
  BO F a c Oo (ar (d+1))) (some (.go ()))
def yJ(F:Nat)(a:List ak):Nat->Int->Option (Way (Int) (Unit))
 |0,_=>none
 |tY+1,b=>
  cond (decide (b<(a.length:Int))) (cU (α:=Unit) (cU (α:=Unit) (BN F a b F 0) λ(_:Unit)=>
  cU (α:=Unit) (BO F a b F 0) λ(_:Unit)=>
  some (.go ())) λ(_:Unit)=>
  yJ F a tY (ar (b+1))) (some (.go ()))
def BH(a:List Field)(b:Int):Nat->Int->Option (Way (Int) (Unit))
 |0,_=>none
 |azI+1,c=>
  cond (decide (c<b)) ((idx a c).bind λ d=>
  (idx a b).bind λ e=>
  cond (decide (d.Name=e.Name)) (some (.out 6)) (BH a b azI (ar (c+1)))) (some (.go ()))
def BG(F:Nat)(a:List Field):Nat->Int->Option (Way (Int) (Unit))
 |0,_=>none
 |azH+1,b=>
  cond (decide (b<(a.length:Int))) (cU (α:=Unit) (cU (α:=Unit) (BH a b F 0) λ(_:Unit)=>
  some (.go ())) λ(_:Unit)=>
  BG F a azH (ar (b+1))) (some (.go ()))
def th(a:ak)(b:Int):Nat->Int->Option (Way (Int) (Unit))
 |0,_=>none
 |azK+1,c=>
  cond (decide (c<b)) ((idx a.bf c).bind λ d=>
  (idx a.bf b).bind λ e=>
  cond (decide (d.Name=e.Name)) (some (.out 6)) (th a b azK (ar (c+1)))) (some (.go ()))
def tg(F:Nat)(a:ak):Nat->Int->Option (Way (Int) (Unit))
 |0,_=>none
 |azJ+1,b=>
  cond (decide (b<(a.bf.length:Int))) (cU (α:=Unit) (cU (α:=Unit) (th a b F 0) λ(_:Unit)=>
  some (.go ())) λ(_:Unit)=>
  tg F a azJ (ar (b+1))) (some (.go ()))
def BQ(F:Nat)(a:List ak):Nat->Int->Option (Way (Int) (Unit))
 |0,_=>none
 |Oq+1,b=>
  cond (decide (b<(a.length:Int))) (cU (α:=Unit) ((BB F a b).bind λ c=>
  cU (α:=Unit) (BG F c F 0) λ(_:Unit)=>
  (idx a b).bind λ d=>
  cU (α:=Unit) (tg F d F 0) λ(_:Unit)=>
  some (.go ())) λ(_:Unit)=>
  BQ F a Oq (ar (b+1))) (some (.go ()))
def yH(F:Nat)(a:List ak)(g:Int)(d:List Int)(e:Int)(h:Int):Nat->Int->Option (Way (Int) (Unit))
 |0,_=>none
 |ag2+1,f=>
  (idx d e).bind λ i=>
  (idx a i).bind λ j=>
  cond (decide (f<(j.bf.length:Int))) ((idx a g).bind λ k=>
  (idx k.bf h).bind λ b=>
  (idx d e).bind λ l=>
  (idx a l).bind λ m=>
  (idx m.bf f).bind λ c=>
  cond (decide (b.Name=c.Name)) (cond (b.Static||c.Static) (some (.out 4)) ((vO F b.cr c.cr).bind λ n=>
  cond (!n) (some (.out 4)) (cond (!decide ((⟨b.Returns.Kind,b.Returns.ak⟩:Kind)=(⟨c.Returns.Kind,c.Returns.ak⟩:Kind))) (some (.out 4)) (yH F a g d e h ag2 (ar (f+1)))))) (yH F a g d e h ag2 (ar (f+1)))) (some (.go ()))
def BK(F:Nat)(a:List ak)(b:Int)(e:List Int)(f:Int):Nat->Int->Option (Way (Int) (Unit))
 |0,_=>none
 |azN+1,c=>
  (idx a b).bind λ d=>
  cond (decide (c<(d.bf.length:Int))) (cU (α:=Unit) (cU (α:=Unit) (yH F a b e f c F 0) λ(_:Unit)=>
  some (.go ())) λ(_:Unit)=>
  BK F a b e f azN (ar (c+1))) (some (.go ()))
def BJ(F:Nat)(c:List ak)(d:Int)(a:List Int):Nat->Int->Option (Way (Int) (Unit))
 |0,_=>none
 |azM+1,b=>
  cond (decide (b<(ar ((a.length:Int)-1)))) (cU (α:=Unit) (cU (α:=Unit) (BK F c d a b F 0) λ(_:Unit)=>
  some (.go ())) λ(_:Unit)=>
  BJ F c d a azM (ar (b+1))) (some (.go ()))
def BI(F:Nat)(a:List ak):Nat->Int->Option (Way (Int) (Unit))
 |0,_=>none
 |azL+1,b=>
  cond (decide (b<(a.length:Int))) (cU (α:=Unit) ((yR F a b).bind λ c=>
  cU (α:=Unit) (BJ F a b c F 0) λ(_:Unit)=>
  some (.go ())) λ(_:Unit)=>
  BI F a azL (ar (b+1))) (some (.go ()))
def H3(F:Nat)(a:List ak):Option (Int):=
 (H2 F a).bind λ h=>
 cond (!decide (h=0)) (some h) (ca (α:=Unit) (vJ F a F 0) λ(_:Unit)=>
 (oO F a [79,98,106,101,99,116]).bind λ d=>
 cond (decide (d<0)) (some 5) ((oO F a [69,114,114,111,114]).bind λ e=>
 cond (decide (e<0)) (some 5) (ca (α:=Unit) (BL a F 0) λ(_:Unit)=>
 ca (α:=Unit) (yI F a F 0) λ(_:Unit)=>
 ca (α:=Unit) (BM F a F 0) λ(_:Unit)=>
 (oO F a [69,114,114,111,114]).bind λ b=>
 (BB F a b).bind λ c=>
 (idx a b).bind λ f=>
 cond ((!decide (f.cR=[79,98,106,101,99,116]))||(decide ((c.length:Int)=0))) (some 4) ((idx c 0).bind λ g=>
 cond (!decide (g.Kind.Kind=1)) (some 4) (ca (α:=Unit) (yJ F a F 0) λ(_:Unit)=>
 ca (α:=Unit) (BQ F a F 0) λ(_:Unit)=>
 ca (α:=Unit) (BI F a F 0) λ(_:Unit)=>
 some 0)))))
def rn(F:Nat)(a:List ak):Nat->(List (List Target))->(List (List (List UInt8)))->(List (List Field))->(List Int)->Int->Option (Way (aP×Int) ((List (List Target))×(List (List (List UInt8)))×(List (List Field))×(List Int)))
 |0,_,_,_,_,_=>none
 |bL+1,Ds,Dt,k,l,b=>
  cond (decide (b<(a.length:Int))) ((BB F a b).bind λ c=>
  (H_ F a b).bind λ d=>
  cond ((decide (12<(c.length:Int)))||(decide (16<(d.1.length:Int)))) (some (.out ((⟨[],[],[],[],[]⟩:aP),2))) ((idx a b).bind λ e=>
  (oO F a e.cR).bind λ f=>
  (bD 8 l [f]).bind λ g=>
  (bD 24 k [c]).bind λ h=>
  (bD 24 Dt [d.1]).bind λ i=>
  (bD 24 Ds [d.2]).bind λ j=>
  rn F a bL j i h g (ar (b+1)))) (some (.go (Ds,Dt,k,l)))
def H6(F:Nat)(a:List ak):Option (aP×Int):=
 (H3 F a).bind λ f=>
 cond (!decide (f=0)) (some ((⟨[],[],[],[],[]⟩:aP),f)) (ca (α:=(List (List Target))×(List (List (List UInt8)))×(List (List Field))×(List Int)) (rn F a F [] [] [] [] 0) λ((b,c,d,e):(List (List Target))×(List (List (List UInt8)))×(List (List Field))×(List Int))=>
 some ((⟨a,e,d,c,b⟩:aP),0))
end I
namespace I
def pd(a:bp):Nat->(List ((List UInt8)×Int))->Int->Option (Way (Int×bp) (List ((List UInt8)×Int)))
 |0,_,_=>none
 |bL+1,c,d=>
  cond (decide (d<(a.l.length:Int))) ((idx a.l d).bind λ b=>
  cond ((cF c b.Name).isSome) (some (.out (6,(⟨a.l,c,a.dl⟩:bp)))) (pd a bL (gC c b.Name d) (ar (d+1)))) (some (.go c))
def Gn(F:Nat)(a:bp):Option (Int×bp):=
 ca (α:=List ((List UInt8)×Int)) (pd a F a.bV 0) λ(b:List ((List UInt8)×Int))=>
 cond ((!((cF b [79,98,106,101,99,116]).isSome))||(!((cF b [69,114,114,111,114]).isSome))) (some (5,(⟨a.l,b,a.dl⟩:bp))) (some (0,(⟨a.l,b,a.dl⟩:bp)))
def xn(a:bp):Nat->Int->Option (Way (Int×bp) (Unit))
 |0,_=>none
 |bL+1,c=>
  cond (decide (c<(a.l.length:Int))) ((idx a.l c).bind λ b=>
  cond (!((decide (b.Name=[79,98,106,101,99,116]))==(decide (b.cR=[])))) (some (.out (4,(⟨a.l,a.bV,a.dl⟩:bp)))) (xn a bL (ar (c+1)))) (some (.go ()))
def mT(a:bp):Nat->(List Int)->Int->Option (Way (Int×bp) (List Int))
 |0,_,_=>none
 |et+1,c,d=>
  cond (decide (d<(a.l.length:Int))) (cU (α:=List Int) ((idx a.l d).bind λ b=>
  cU (α:=Int) (cU (α:=Int) (cond (decide (b.cR=[])) (some (.go (-1))) (cond (!((cF a.bV b.cR).isSome)) (some (.out (5,(⟨a.l,a.bV,c⟩:bp)))) (some (.go ((cF a.bV b.cR).getD 0))))) λ(e:Int)=>
  some (.go e)) λ(f:Int)=>
  (bD 8 c [f]).bind λ g=>
  some (.go g)) λ(h:List Int)=>
  mT a et h (ar (d+1))) (some (.go c))
def ud(b:bp)(c:List Int):Nat->Int->Int->Option (Int)
 |0,_,_=>none
 |l4+1,d,e=>
  cond (decide (e<(b.l.length:Int))) ((idx c d).bind λ a=>
  cond (decide (a<0)) (some a) (ud b c l4 a (ar (e+1)))) (some d)
def sa(F:Nat)(a:bp)(b:List Int):Nat->Int->Option (Way (Int×bp) (Unit))
 |0,_=>none
 |ht+1,c=>
  cond (decide (c<(a.l.length:Int))) (cU (α:=Unit) (dB (α:=Int) (dB (α:=Int) (ud a b F c 0) λ(d:Int)=>
  some d) λ(e:Int)=>
  cond (decide (0<=e)) (some (.out (4,(⟨a.l,a.bV,b⟩:bp)))) (some (.go ()))) λ(_:Unit)=>
  sa F a b ht (ar (c+1))) (some (.go ()))
def OL(F:Nat)(a:bp):Option (Int×bp):=
 ca (α:=Unit) (xn a F 0) λ(_:Unit)=>
 ca (α:=List Int) (mT a F a.dl 0) λ(b:List Int)=>
 ca (α:=Unit) (sa F a b F 0) λ(_:Unit)=>
 some (0,(⟨a.l,a.bV,b⟩:bp))
def sc(b:bp):Nat->(List Int)->Int->Option (List Int)
 |0,_,_=>none
 |bL+1,c,a=>
  cond (decide (0<=a)) ((bD 8 c [a]).bind λ d=>
  (idx b.dl a).bind λ e=>
  sc b bL d e) (some c)
def sb(F:Nat)(a:bp)(dg:Int):Option (List Int):=
 dB (α:=List Int) (sc a F [] dg) λ(b:List Int)=>
 some b
def KW(_:List Int):Option Unit:=some ()
def zL(b:bp):List Int->(List Field)->Option (List Field)
 |[],a=>some a
 |A2::c,a=>
  (idx b.l A2).bind λ d=>
  (bD 40 a d.Fields).bind λ e=>
  zL b c e
def uf(F:Nat)(a:bp)(dg:Int):Option (List Field):=
 (sb F (⟨a.l,a.bV,a.dl⟩:bp) dg).bind λ b=>
 (KW b).bind λ d=>
 dB (α:=List Field) (zL a b.reverse []) λ(c:List Field)=>
 some c
def OM(F:Nat)(a:bp):Option (Int):=
 (uf F (⟨a.l,a.bV,a.dl⟩:bp) ((cF a.bV [69,114,114,111,114]).getD 0)).bind λ d=>
 (idx a.l ((cF a.bV [69,114,114,111,114]).getD 0)).bind λ b=>
 cond ((!decide (b.cR=[79,98,106,101,99,116]))||(decide ((d.length:Int)=0))) (some 4) ((idx d 0).bind λ c=>
 cond (!decide (c.Kind.Kind=1)) (some 4) (some 0))
def DG(b:Kind)(c:List (List UInt8)):Option (List (List UInt8)):=
 cond (!decide (b.ak=[])) ((bD 16 c [b.ak]).bind λ a=>
 some a) (some c)
def xq(b:ak):Nat->(List (List UInt8))->Int->Option (List (List UInt8))
 |0,_,_=>none
 |et+1,DA,c=>
  cond (decide (c<(b.Fields.length:Int))) ((idx b.Fields c).bind λ a=>
  (DG (⟨a.Kind.Kind,a.Kind.ak⟩:Kind) DA).bind λ d=>
  xq b et d (ar (c+1))) (some DA)
def xr(b:Method):Nat->(List (List UInt8))->Int->Option (List (List UInt8))
 |0,_,_=>none
 |l4+1,DB,c=>
  cond (decide (c<(b.cr.length:Int))) ((idx b.cr c).bind λ a=>
  (DG (⟨a.Kind,a.ak⟩:Kind) DB).bind λ d=>
  xr b l4 d (ar (c+1))) (some DB)
def sh(a:Method):Nat->(List (List UInt8))->Int->Option (List (List UInt8))
 |0,_,_=>none
 |tY+1,e,b=>
  cond (decide (b<(a.cy.length:Int))) ((idx a.cy b).bind λ c=>
  (bD 16 e [c.ak]).bind λ d=>
  sh a tY d (ar (b+1))) (some e)
def sg(F:Nat)(b:ak):Nat->(List (List UInt8))->Int->Option (List (List UInt8))
 |0,_,_=>none
 |ht+1,h,c=>
  cond (decide (c<(b.bf.length:Int))) (dB (α:=List (List UInt8)) ((idx b.bf c).bind λ a=>
  dB (α:=List (List UInt8)) (xr a F h 0) λ(d:List (List UInt8))=>
  (DG (⟨a.Returns.Kind,a.Returns.ak⟩:Kind) d).bind λ e=>
  dB (α:=List (List UInt8)) (sh a F e 0) λ(f:List (List UInt8))=>
  some f) λ(g:List (List UInt8))=>
  sg F b ht g (ar (c+1))) (some h)
def xp(F:Nat)(a:bp):Nat->(List (List UInt8))->Int->Option (List (List UInt8))
 |0,_,_=>none
 |bL+1,f,b=>
  cond (decide (b<(a.l.length:Int))) (dB (α:=List (List UInt8)) ((idx a.l b).bind λ g=>
  dB (α:=List (List UInt8)) (xq g F f 0) λ(c:List (List UInt8))=>
  dB (α:=List (List UInt8)) (sg F g F c 0) λ(d:List (List UInt8))=>
  some d) λ(e:List (List UInt8))=>
  xp F a bL e (ar (b+1))) (some f)
def zS(d:bp)(a:List (List UInt8)):Nat->Int->Option (Way (Int) (Unit))
 |0,_=>none
 |zF+1,b=>
  cond (decide (b<(a.length:Int))) ((idx a b).bind λ c=>
  cond (!((cF d.bV c).isSome)) (some (.out 5)) (zS d a zF (ar (b+1)))) (some (.go ()))
def J2(F:Nat)(a:bp):Option (Int):=
 dB (α:=List (List UInt8)) (xp F a F [] 0) λ(b:List (List UInt8))=>
 ca (α:=Unit) (zS a b F 0) λ(_:Unit)=>
 some 0
def zT(a:List (List UInt8)):Nat->(List ((List UInt8)×Bool))->Int->Option (List ((List UInt8)×Bool))
 |0,_,_=>none
 |bL+1,d,b=>
  cond (decide (b<(a.length:Int))) ((idx a b).bind λ c=>
  zT a bL (gC d c true) (ar (b+1))) (some d)
def Gq(F:Nat)(b:List (List UInt8)):Option (Bool):=
 dB (α:=List ((List UInt8)×Bool)) (zT b F [] 0) λ(a:List ((List UInt8)×Bool))=>
 some (decide ((a.length:Int)<(b.length:Int)))
def xo(a:List Field):Nat->(List (List UInt8))->Int->Option (List (List UInt8))
 |0,_,_=>none
 |et+1,e,b=>
  cond (decide (b<(a.length:Int))) ((idx a b).bind λ c=>
  (bD 16 e [c.Name]).bind λ d=>
  xo a et d (ar (b+1))) (some e)
def sf(a:ak):Nat->(List (List UInt8))->Int->Option (List (List UInt8))
 |0,_,_=>none
 |ht+1,e,b=>
  cond (decide (b<(a.bf.length:Int))) ((idx a.bf b).bind λ c=>
  (bD 16 e [c.Name]).bind λ d=>
  sf a ht d (ar (b+1))) (some e)
def zP(F:Nat)(a:bp):Nat->Int->Option (Way (Int) (Unit))
 |0,_=>none
 |bL+1,b=>
  cond (decide (b<(a.l.length:Int))) (cU (α:=Unit) ((idx a.l b).bind λ g=>
  (uf F (⟨a.l,a.bV,a.dl⟩:bp) b).bind λ h=>
  dB (α:=List (List UInt8)) (xo h F [] 0) λ(c:List (List UInt8))=>
  dB (α:=List (List UInt8)) (sf g F [] 0) λ(d:List (List UInt8))=>
  (Gq F c).bind λ e=>
  cond (e) (some (.out 6)) ((Gq F d).bind λ f=>
  cond (f) (some (.out 6)) (some (.go ())))) λ(_:Unit)=>
  zP F a bL (ar (b+1))) (some (.go ()))
def J1(F:Nat)(a:bp):Option (Int):=
 ca (α:=Unit) (zP F a F 0) λ(_:Unit)=>
 some 0
def D8(b:List Kind)(c:List Kind):Nat->Int->Option (Way (Bool) (Unit))
 |0,_=>none
 |bL+1,a=>
  cond (decide (a<(b.length:Int))) ((idx b a).bind λ d=>
  (idx c a).bind λ e=>
  cond (!decide (d=e)) (some (.out false)) (D8 b c bL (ar (a+1)))) (some (.go ()))
def K2(F:Nat)(a:List Kind)(b:List Kind):Option (Bool):=
 cond (!decide ((a.length:Int)=(b.length:Int))) (some false) (ca (α:=Unit) (D8 a b F 0) λ(_:Unit)=>
 some true)
def OJ(F:Nat)(a:Method)(b:Method):Option (Bool):=
 cond ((!a.Static)&&(!b.Static)) ((K2 F a.cr b.cr).bind λ c=>
 cond (c) (some (decide ((⟨a.Returns.Kind,a.Returns.ak⟩:Kind)=(⟨b.Returns.Kind,b.Returns.ak⟩:Kind)))) (some false)) (some false)
def sd(F:Nat)(a:Method)(c:ak):Nat->Int->Option (Way (Int) (Unit))
 |0,_=>none
 |l4+1,d=>
  cond (decide (d<(c.bf.length:Int))) ((idx c.bf d).bind λ b=>
  cond (decide (a.Name=b.Name)) ((OJ F (⟨a.Name,a.Static,a.cr,(⟨a.Returns.Kind,a.Returns.ak⟩:Kind),a.hJ,a.hG,a.Code,a.cy⟩:Method) (⟨b.Name,b.Static,b.cr,(⟨b.Returns.Kind,b.Returns.ak⟩:Kind),b.hJ,b.hG,b.Code,b.cy⟩:Method)).bind λ e=>
  cond (!e) (some (.out 4)) (sd F a c l4 (ar (d+1)))) (sd F a c l4 (ar (d+1)))) (some (.go ()))
def zO(F:Nat)(c:bp)(a:ak)(d:Int):Nat->Int->Option (Way (Int) (Unit))
 |0,_=>none
 |ht+1,b=>
  cond (decide (b<(a.bf.length:Int))) (cU (α:=Unit) ((idx a.bf b).bind λ e=>
  (idx c.l d).bind λ f=>
  cU (α:=Unit) (sd F e f F 0) λ(_:Unit)=>
  some (.go ())) λ(_:Unit)=>
  zO F c a d ht (ar (b+1))) (some (.go ()))
def zN(F:Nat)(b:bp)(c:ak)(qp:List Int):Nat->Int->Option (Way (Int) (Unit))
 |0,_=>none
 |et+1,a=>
  cond (decide (a<(qp.length:Int))) (cU (α:=Unit) ((idx qp a).bind λ d=>
  cU (α:=Unit) (zO F b c d F 0) λ(_:Unit)=>
  some (.go ())) λ(_:Unit)=>
  zN F b c qp et (ar (a+1))) (some (.go ()))
def zM(F:Nat)(a:bp):Nat->Int->Option (Way (Int) (Unit))
 |0,_=>none
 |bL+1,b=>
  cond (decide (b<(a.l.length:Int))) (cU (α:=Unit) ((idx a.l b).bind λ d=>
  (sb F (⟨a.l,a.bV,a.dl⟩:bp) b).bind λ c=>
  (cut c 1 (c.length:Int)).bind λ qp=>
  cU (α:=Unit) (zN F a d qp F 0) λ(_:Unit)=>
  some (.go ())) λ(_:Unit)=>
  zM F a bL (ar (b+1))) (some (.go ()))
def J0(F:Nat)(a:bp):Option (Int):=
 ca (α:=Unit) (zM F a F 0) λ(_:Unit)=>
 some 0
end I
namespace I
def ZH(s_:List Field):Option (List Field):=
 (bD 40 ([]:List Field) s_).bind λ a=>
 some a
def ZK(s_:List Method):Option (List Method):=
 (bD 128 ([]:List Method) s_).bind λ a=>
 some a
def ZJ(s_:List Kind):Option (List Kind):=
 (bD 24 ([]:List Kind) s_).bind λ a=>
 some a
def ZI(s_:List Handler):Option (List Handler):=
 (bD 40 ([]:List Handler) s_).bind λ a=>
 some a
def ug:Nat->(List Method)->Int->Int->Option (List Method)
 |0,_,_,_=>none
 |et+1,g,d,c=>
  cond (decide (c<d)) ((idx g c).bind λ e=>
  (ZJ e.cr).bind λ h=>
  (ZI e.cy).bind λ i=>
  (idx g c).bind λ a=>
  (some (g.set (c).toNat (⟨a.Name,a.Static,h,(⟨a.Returns.Kind,a.Returns.ak⟩:Kind),a.hJ,a.hG,a.Code,a.cy⟩:Method))).bind λ f=>
  (idx f c).bind λ b=>
  (some (f.set (c).toNat (⟨b.Name,b.Static,b.cr,(⟨b.Returns.Kind,b.Returns.ak⟩:Kind),b.hJ,b.hG,b.Code,i⟩:Method))).bind λ j=>
  ug et j d (ar (c+1))) (some g)
def si(F:Nat)(c:List ak):Nat->(List ak)->Int->Option (List ak)
 |0,_,_=>none
 |bL+1,i,d=>
  cond (decide (d<(c.length:Int))) (dB (α:=List ak) ((idx c d).bind λ b=>
  (ZH b.Fields).bind λ e=>
  (ZK b.bf).bind λ a=>
  dB (α:=List Method) (ug F a (a.length:Int) 0) λ(f:List Method)=>
  (bD 80 i [(⟨b.Name,b.cR,e,f⟩:ak)]).bind λ g=>
  some g) λ(h:List ak)=>
  si F c bL h (ar (d+1))) (some i)
def J3(F:Nat)(b:List ak):Option (List ak):=
 dB (α:=List ak) (si F b F [] 0) λ(a:List ak)=>
 some a
def AO(s_:List (List UInt8))(b:List UInt8):Nat->Int->Option (Way (Int) (Unit))
 |0,_=>none
 |bL+1,a=>
  cond (decide (a<(s_.length:Int))) ((idx s_ a).bind λ c=>
  cond (decide (b=c)) (some (.out a)) (AO s_ b bL (ar (a+1)))) (some (.go ()))
def K6(F:Nat)(s_:List (List UInt8))(a:List UInt8):Option (Int):=
 ca (α:=Unit) (AO s_ a F 0) λ(_:Unit)=>
 some (-1)
def zR(F:Nat)(d:Int)(e:ak):Nat->(List (List UInt8))->(List Target)->Int->Option ((List (List UInt8))×(List Target))
 |0,_,_,_=>none
 |et+1,b,c,a=>
  cond (decide (a<(e.bf.length:Int))) (dB (α:=(List (List UInt8))×(List Target)) ((idx e.bf a).bind λ g=>
  (K6 F b g.Name).bind λ f=>
  cond (decide (0<=f)) ((idx c f).bind λ h=>
  (some (c.set (f).toNat (⟨d,a⟩:Target))).bind λ i=>
  some (b,i)) ((bD 16 b [g.Name]).bind λ j=>
  (bD 16 c [(⟨d,a⟩:Target)]).bind λ k=>
  some (j,k))) λ((l,m):(List (List UInt8))×(List Target))=>
  zR F d e et l m (ar (a+1))) (some (b,c))
def zQ(F:Nat)(c:bp):List Int->(List (List UInt8))->(List Target)->Option ((List (List UInt8))×(List Target))
 |[],a,b=>some (a,b)
 |eN::d,a,b=>
  dB (α:=(List (List UInt8))×(List Target)) ((idx c.l eN).bind λ e=>
  dB (α:=(List (List UInt8))×(List Target)) (zR F eN e F a b 0) λ((f,g):(List (List UInt8))×(List Target))=>
  some (f,g)) λ((h,i):(List (List UInt8))×(List Target))=>
  zQ F c d h i
def DF(F:Nat)(a:bp)(dg:Int):Option ((List (List UInt8))×(List Target)):=
 (sb F (⟨a.l,a.bV,a.dl⟩:bp) dg).bind λ b=>
 (KW b).bind λ e=>
 dB (α:=(List (List UInt8))×(List Target)) (zQ F a b.reverse [] []) λ((c,d):(List (List UInt8))×(List Target))=>
 some (c,d)
def n'(F:Nat)(c:List ak)(d:Int×bp)(e:Int×bp):Nat->(List (List Target))->(List (List (List UInt8)))->(List (List Field))->Int->Option (Way (aP×Int) ((List (List Target))×(List (List (List UInt8)))×(List (List Field))))
 |0,_,_,_,_=>none
 |bL+1,k,l,m,a=>
  cond (decide (a<(c.length:Int))) ((DF F (⟨c,d.2.bV,e.2.dl⟩:bp) a).bind λ f=>
  (uf F (⟨c,d.2.bV,e.2.dl⟩:bp) a).bind λ g=>
  (bD 24 m [g]).bind λ b=>
  (bD 24 l [f.1]).bind λ h=>
  (bD 24 k [f.2]).bind λ i=>
  (idx b a).bind λ j=>
  cond ((decide (12<(j.length:Int)))||(decide (16<(f.1.length:Int)))) (some (.out ((⟨[],[],[],[],[]⟩:aP),2))) (n' F c d e bL i h b (ar (a+1)))) (some (.go (k,l,m)))
def DE(F:Nat)(e:List ak):Option (aP×Int):=
 (JL F e).bind λ f=>
 cond (!decide (f=0)) (some ((⟨[],[],[],[],[]⟩:aP),f)) ((J3 F e).bind λ a=>
 (Gn F (⟨a,[],[]⟩:bp)).bind λ b=>
 cond (!decide (b.1=0)) (some ((⟨[],[],[],[],[]⟩:aP),b.1)) ((OL F (⟨a,b.2.bV,[]⟩:bp)).bind λ c=>
 cond (!decide (c.1=0)) (some ((⟨[],[],[],[],[]⟩:aP),c.1)) ((OM F (⟨a,b.2.bV,c.2.dl⟩:bp)).bind λ g=>
 cond (!decide (g=0)) (some ((⟨[],[],[],[],[]⟩:aP),g)) ((J2 F (⟨a,b.2.bV,c.2.dl⟩:bp)).bind λ om=>
 cond (!decide (om=0)) (some ((⟨[],[],[],[],[]⟩:aP),om)) ((J1 F (⟨a,b.2.bV,c.2.dl⟩:bp)).bind λ eg=>
 cond (!decide (eg=0)) (some ((⟨[],[],[],[],[]⟩:aP),eg)) ((J0 F (⟨a,b.2.bV,c.2.dl⟩:bp)).bind λ d=>
 cond (!decide (d=0)) (some ((⟨[],[],[],[],[]⟩:aP),d)) (ca (α:=(List (List Target))×(List (List (List UInt8)))×(List (List Field))) (n' F a b c F [] [] [] 0) λ((h,i,j):(List (List Target))×(List (List (List UInt8)))×(List (List Field)))=>
 some ((⟨a,c.2.dl,j,i,h⟩:aP),0))))))))
def AJ(b:List Int)(c:List Int):Nat->Int->Option (Way (Bool) (Unit))
 |0,_=>none
 |bL+1,a=>
  cond (decide (a<(b.length:Int))) ((idx b a).bind λ d=>
  (idx c a).bind λ e=>
  cond (!decide (d=e)) (some (.out false)) (AJ b c bL (ar (a+1)))) (some (.go ()))
def K4(F:Nat)(a:List Int)(b:List Int):Option (Bool):=
 cond (!decide ((a.length:Int)=(b.length:Int))) (some false) (ca (α:=Unit) (AJ a b F 0) λ(_:Unit)=>
 some true)
def AH(b:List Field)(c:List Field):Nat->Int->Option (Way (Bool) (Unit))
 |0,_=>none
 |bL+1,a=>
  cond (decide (a<(b.length:Int))) ((idx b a).bind λ d=>
  (idx c a).bind λ e=>
  cond (!decide (d=e)) (some (.out false)) (AH b c bL (ar (a+1)))) (some (.go ()))
def K1(F:Nat)(a:List Field)(b:List Field):Option (Bool):=
 cond (!decide ((a.length:Int)=(b.length:Int))) (some false) (ca (α:=Unit) (AH a b F 0) λ(_:Unit)=>
 some true)
def AE(F:Nat)(b:List (List Field))(c:List (List Field)):Nat->Int->Option (Way (Bool) (Unit))
 |0,_=>none
 |bL+1,a=>
  cond (decide (a<(b.length:Int))) ((idx b a).bind λ d=>
  (idx c a).bind λ e=>
  (K1 F d e).bind λ Ky=>
  cond (!Ky) (some (.out false)) (AE F b c bL (ar (a+1)))) (some (.go ()))
def KY(F:Nat)(a:List (List Field))(b:List (List Field)):Option (Bool):=
 cond (!decide ((a.length:Int)=(b.length:Int))) (some false) (ca (α:=Unit) (AE F a b F 0) λ(_:Unit)=>
 some true)
def AK(b:List (List UInt8))(c:List (List UInt8)):Nat->Int->Option (Way (Bool) (Unit))
 |0,_=>none
 |bL+1,a=>
  cond (decide (a<(b.length:Int))) ((idx b a).bind λ d=>
  (idx c a).bind λ e=>
  cond (!decide (d=e)) (some (.out false)) (AK b c bL (ar (a+1)))) (some (.go ()))
def K5(F:Nat)(a:List (List UInt8))(b:List (List UInt8)):Option (Bool):=
 cond (!decide ((a.length:Int)=(b.length:Int))) (some false) (ca (α:=Unit) (AK a b F 0) λ(_:Unit)=>
 some true)
def AG(F:Nat)(b:List (List (List UInt8)))(c:List (List (List UInt8))):Nat->Int->Option (Way (Bool) (Unit))
 |0,_=>none
 |bL+1,a=>
  cond (decide (a<(b.length:Int))) ((idx b a).bind λ d=>
  (idx c a).bind λ e=>
  (K5 F d e).bind λ Ky=>
  cond (!Ky) (some (.out false)) (AG F b c bL (ar (a+1)))) (some (.go ()))
def K0(F:Nat)(a:List (List (List UInt8)))(b:List (List (List UInt8))):Option (Bool):=
 cond (!decide ((a.length:Int)=(b.length:Int))) (some false) (ca (α:=Unit) (AG F a b F 0) λ(_:Unit)=>
 some true)
def AI(b:List Target)(c:List Target):Nat->Int->Option (Way (Bool) (Unit))
 |0,_=>none
 |bL+1,a=>
  cond (decide (a<(b.length:Int))) ((idx b a).bind λ d=>
  (idx c a).bind λ e=>
  cond (!decide (d=e)) (some (.out false)) (AI b c bL (ar (a+1)))) (some (.go ()))
def K3(F:Nat)(a:List Target)(b:List Target):Option (Bool):=
 cond (!decide ((a.length:Int)=(b.length:Int))) (some false) (ca (α:=Unit) (AI a b F 0) λ(_:Unit)=>
 some true)
def AF(F:Nat)(b:List (List Target))(c:List (List Target)):Nat->Int->Option (Way (Bool) (Unit))
 |0,_=>none
 |bL+1,a=>
  cond (decide (a<(b.length:Int))) ((idx b a).bind λ d=>
  (idx c a).bind λ e=>
  (K3 F d e).bind λ Ky=>
  cond (!Ky) (some (.out false)) (AF F b c bL (ar (a+1)))) (some (.go ()))
def KZ(F:Nat)(a:List (List Target))(b:List (List Target)):Option (Bool):=
 cond (!decide ((a.length:Int)=(b.length:Int))) (some false) (ca (α:=Unit) (AF F a b F 0) λ(_:Unit)=>
 some true)
def Gp(F:Nat)(a:aP)(b:aP):Option (Bool):=
 (K4 F a.aW b.aW).bind λ c=>
 cond (c) ((KY F a.Fields b.Fields).bind λ d=>
 cond (d) ((K0 F a.Names b.Names).bind λ e=>
 cond (e) ((KZ F a.aX b.aX).bind λ f=>
 some f) (some false)) (some false)) (some false)
def pc(F:Nat)(a:aP):Option (Int):=
 (DE F a.aY).bind λ b=>
 cond (!decide (b.2=0)) (some 4) ((Gp F (⟨a.aY,a.aW,a.Fields,a.Names,a.aX⟩:aP) (⟨b.1.aY,b.1.aW,b.1.Fields,b.1.Names,b.1.aX⟩:aP)).bind λ c=>
 cond (!c) (some 4) (some 0))
def ack:Option (List ak):=
 some [(⟨[79,98,106,101,99,116],[],[],[(⟨[109,97,105,110],true,[],(⟨0,[]⟩:Kind),2,0,[1,0,7,31,27],[]⟩:Method)]⟩:ak),(⟨[69,114,114,111,114],[79,98,106,101,99,116],[(⟨[99,111,100,101],(⟨1,[]⟩:Kind)⟩:Field)],[]⟩:ak)]
end I
namespace I
def vK(F:Nat)(a:aP):Option (Int):=
 (H6 F a.aY).bind λ b=>
 cond (!decide (b.2=0)) (some 4) ((Fa F (⟨a.aY,a.aW,a.Fields,a.Names,a.aX⟩:aP) (⟨b.1.aY,b.1.aW,b.1.Fields,b.1.Names,b.1.aX⟩:aP)).bind λ eg=>
 cond (!eg) (some 4) (some 0))
end I
namespace I
def o2(dg:Int)(a:Int)(b:Int):Option (Bool):=
 some ((decide (a<=dg))&&(decide (dg<=b)))
def af8(a:Int)(b:Int):Option (aR×Int):=
 (o2 a 3 2000).bind λ d=>
 cond (!d) (some ((⟨[],0,0,0,0,[],0⟩:aR),3)) ((o2 b 3 2000).bind λ e=>
 cond (!e) (some ((⟨[],0,0,0,0,[],0⟩:aR),3)) ((ui (0 :Int) 8 (ar ((ar (1+a))+b))).bind λ c=>
 some ((⟨c,a,b,1,ar (a+1),[],1⟩:aR),0)))
def wE(s_:b4)(a:Int):Option (Bool):=
 cond ((decide (a=1))||(decide (a=2))) (some true) ((o2 a 3 (ar ((ar (3+(s_.K.aY.length:Int)))-1))).bind λ b=>
 some b)
def wF(s_:b4)(b:Int)(dg:Int):Option (Bool):=
 (o2 dg 0 500).bind λ c=>
 cond (c) (cond (decide (b<3)) (some true) ((idx s_.K.Fields (ar (b-3))).bind λ a=>
 some (decide (dg=(a.length:Int))))) (some false)
def rY(s_:b4)(a:Int)(dg:Int):Option (Bool):=
 cond (decide (a=2)) (some true) (cond (decide (3<=a)) ((idx s_.K.Fields (ar (a-3))).bind λ b=>
 (idx b dg).bind λ c=>
 some (!decide (c.Kind.Kind=1))) (some false))
def Vi(s_:b4)(a:Int)(b:Int):Option (Int):=
 (wE (⟨(⟨s_.K.aY,s_.K.aW,s_.K.Fields,s_.K.Names,s_.K.aX⟩:aP)⟩:b4) a).bind λ c=>
 cond (!c) (some 7) ((wF (⟨(⟨s_.K.aY,s_.K.aW,s_.K.Fields,s_.K.Names,s_.K.aX⟩:aP)⟩:b4) a b).bind λ d=>
 cond (!d) (some 3) (some 0))
def F5(a:aR):Option (Int):=
 (o2 a.av 3 2000).bind λ c=>
 cond (!c) (some 3) ((o2 a.aL 3 2000).bind λ d=>
 cond (!d) (some 3) (cond (!decide ((a.Words.length:Int)=(ar ((ar (1+a.av))+a.aL)))) (some 1) ((o2 a.aU 1 (ar (a.av+1))).bind λ e=>
 cond (!e) (some 3) ((o2 a.aT (ar (a.av+1)) (ar ((ar (a.av+a.aL))+1))).bind λ b=>
 cond ((!b)||(decide (a.Next<1))) (some 3) (some 0)))))
def F1(a:bg)(at_:Int):Option (Bool):=
 some ((decide (0<at_))&&(decide (at_<=a.H.av)))
def F0(a:bg)(at_:Int):Option (Bool):=
 some ((cF a.dz at_).getD false)
def o1(e:Int)(a:bg):Nat->(List Int)->(List (Int×Bool))->Int->Option (Way ((List Int)×Bool×bg) ((List Int)×(List (Int×Bool))))
 |0,_,_,_=>none
 |bL+1,i,qv,b=>
  cond (decide (b<e)) (cond (decide (e<(ar (b+3)))) (some (.out ([],false,(⟨(⟨a.H.Words,a.H.av,a.H.aL,a.H.aU,a.H.aT,a.H.aS,a.H.Next⟩:aR),(⟨(⟨a.S.K.aY,a.S.K.aW,a.S.K.Fields,a.S.K.Names,a.S.K.aX⟩:aP)⟩:b4),a.av,a.aL,qv⟩:bg)))) ((idx a.H.Words b).bind λ d=>
  (idx a.H.Words (ar (b+1))).bind λ c=>
  (wE (⟨(⟨a.S.K.aY,a.S.K.aW,a.S.K.Fields,a.S.K.Names,a.S.K.aX⟩:aP)⟩:b4) d).bind λ f=>
  cond (!f) (some (.out ([],false,(⟨(⟨a.H.Words,a.H.av,a.H.aL,a.H.aU,a.H.aT,a.H.aS,a.H.Next⟩:aR),(⟨(⟨a.S.K.aY,a.S.K.aW,a.S.K.Fields,a.S.K.Names,a.S.K.aX⟩:aP)⟩:b4),a.av,a.aL,qv⟩:bg)))) ((wF (⟨(⟨a.S.K.aY,a.S.K.aW,a.S.K.Fields,a.S.K.Names,a.S.K.aX⟩:aP)⟩:b4) d c).bind λ g=>
  cond ((!g)||(decide (e<(ar ((ar (b+3))+c))))) (some (.out ([],false,(⟨(⟨a.H.Words,a.H.av,a.H.aL,a.H.aU,a.H.aT,a.H.aS,a.H.Next⟩:aR),(⟨(⟨a.S.K.aY,a.S.K.aW,a.S.K.Fields,a.S.K.Names,a.S.K.aX⟩:aP)⟩:b4),a.av,a.aL,qv⟩:bg)))) ((bD 8 i [b]).bind λ h=>
  o1 e a bL h (gC qv b true) (ar (b+(ar (3+c)))))))) (some (.go (i,qv)))
def mK(F:Nat)(a:bg)(from_:Int)(d:Int):Option ((List Int)×Bool×bg):=
 ca (α:=(List Int)×(List (Int×Bool))) (o1 d a F [] a.dz from_) λ((b,c):(List Int)×(List (Int×Bool)))=>
 some (b,true,(⟨(⟨a.H.Words,a.H.av,a.H.aL,a.H.aU,a.H.aT,a.H.aS,a.H.Next⟩:aR),(⟨(⟨a.S.K.aY,a.S.K.aW,a.S.K.Fields,a.S.K.Names,a.S.K.aX⟩:aP)⟩:b4),a.av,a.aL,c⟩:bg))
def wG(at_:Int)(a:bg)(h:Int):Nat->(List Int)->Int->Option (List Int)
 |0,_,_=>none
 |bL+1,c,b=>
  cond (decide (b<h)) (dB (α:=List Int) ((idx a.H.Words at_).bind λ d=>
  (rY (⟨(⟨a.S.K.aY,a.S.K.aW,a.S.K.Fields,a.S.K.Names,a.S.K.aX⟩:aP)⟩:b4) d b).bind λ e=>
  cond (e) ((bD 8 c [ar ((ar (at_+3))+b)]).bind λ f=>
  some f) (some c)) λ(g:List Int)=>
  wG at_ a h bL g (ar (b+1))) (some c)
def qd(F:Nat)(b:bg)(at_:Int):Option (List Int):=
 (idx b.H.Words (ar (at_+1))).bind λ c=>
 dB (α:=List Int) (wG at_ b c F [] 0) λ(a:List Int)=>
 some a
def Qg(dg:Int):Option (List Int):=
 dB (α:=Unit) (cond (decide (dg<0)) ((none:Option (Unit))) (some ())) λ(_:Unit)=>
 cond (decide (0<(ar (dg-0)))) ((Ig (0 :Int) 8 (ar (dg-0))).bind λ a=>
 some ([]:List Int)) (some [])
def xN(b:List (List Int)):Nat->Int->Int->Option (Int)
 |0,_,_=>none
 |bL+1,c,d=>
  cond (decide (d<(b.length:Int))) (dB (α:=Int) ((idx b d).bind λ a=>
  cond (decide ((ar (c+(a.length:Int)))<0)) ((none:Option (Int))) (some (ar (c+(a.length:Int))))) λ(e:Int)=>
  xN b bL e (ar (d+1))) (some c)
def xO(a:List (List Int)):Nat->(List Int)->Int->Option (List Int)
 |0,_,_=>none
 |et+1,e,b=>
  cond (decide (b<(a.length:Int))) ((idx a b).bind λ c=>
  (bD 8 e c).bind λ d=>
  xO a et d (ar (b+1))) (some e)
def G8(F:Nat)(d:List (List Int)):Option (List Int):=
 dB (α:=Int) (xN d F 0 0) λ(a:Int)=>
 (Qg a).bind λ b=>
 dB (α:=List Int) (xO d F b 0) λ(c:List Int)=>
 some c
def zq(F:Nat)(a:bg):Option (List Int):=
 (G8 F [a.av,a.aL]).bind λ b=>
 some b
def cmp_isNaN_int(a:Int):Option (Bool):=
 some (!decide (a=a))
def cmp_Less_int(b:Int)(a:Int):Option (Bool):=
 (cmp_isNaN_int b).bind λ c=>
 cond (c) ((cmp_isNaN_int a).bind λ d=>
 some ((!d)||(decide (b<a)))) (some (decide (b<a)))
def Qk(a:Int):Option (Bool):=
 some (!decide (a=a))
def uL(f:Int)(g:List Int):Nat->Int->Int->Option (Int)
 |0,_,_=>none
 |bL+1,sp,a=>
  cond (decide (sp<a)) (dB (α:=Int×Int) ((idx g (ar (xM (Hf (ar (sp+a))) 1))).bind λ b=>
  (cmp_Less_int b f).bind λ c=>
  cond (c) (some (ar ((ar (xM (Hf (ar (sp+a))) 1))+1),a)) (some (sp,ar (xM (Hf (ar (sp+a))) 1)))) λ((d,e):Int×Int)=>
  uL f g bL d e) (some sp)
def KX(F:Nat)(b:List Int)(c:Int):Option (Int×Bool):=
 dB (α:=Int) (uL c b F 0 (b.length:Int)) λ(a:Int)=>
 cond (decide (a<(b.length:Int))) ((idx b a).bind λ d=>
 cond (decide (d=c)) (some (a,true)) ((idx b a).bind λ e=>
 (Qk e).bind λ f=>
 cond (f) ((Qk c).bind λ g=>
 some (a,g)) (some (a,false)))) (some (a,false))
end I
namespace I
def wH(b:bg)(c:List Int):Nat->(List (Int×Bool))->Int->Option (Way (Int) (List (Int×Bool)))
 |0,_,_=>none
 |bL+1,f,d=>
  cond (decide (d<(c.length:Int))) ((idx c d).bind λ e=>
  (idx b.H.Words (ar (e+2))).bind λ a=>
  cond ((decide (a<1))||(decide (b.H.Next<=a))) (some (.out 3)) (wH b c bL (gC f a true) (ar (d+1)))) (some (.go f))
def F2(F:Nat)(a:bg):Option (Int):=
 (zq F (⟨(⟨a.H.Words,a.H.av,a.H.aL,a.H.aU,a.H.aT,a.H.aS,a.H.Next⟩:aR),(⟨(⟨a.S.K.aY,a.S.K.aW,a.S.K.Fields,a.S.K.Names,a.S.K.aX⟩:aP)⟩:b4),a.av,a.aL,a.dz⟩:bg)).bind λ b=>
 ca (α:=List (Int×Bool)) (wH a b F [] 0) λ(c:List (Int×Bool))=>
 cond (decide ((c.length:Int)<(a.dz.length:Int))) (some 6) (some 0)
def Vj(dg:Int):Option (Bool):=
 some (!decide (dg=0))
def AM(s_:List Int):Nat->Int->Option (Way (Int) (Unit))
 |0,_=>none
 |bL+1,a=>
  cond (decide (a<(s_.length:Int))) ((idx s_ a).bind λ b=>
  (Vj b).bind λ c=>
  cond (c) (some (.out a)) (AM s_ bL (ar (a+1)))) (some (.go ()))
def Qi(F:Nat)(s_:List Int):Option (Int):=
 ca (α:=Unit) (AM s_ F 0) λ(_:Unit)=>
 some (-1)
def Qd(F:Nat)(s_:List Int):Option (Bool):=
 (Qi F s_).bind λ a=>
 some (decide (0<=a))
def wJ(b:bg)(c:List Int):Nat->Int->Option (Way (Int) (Unit))
 |0,_=>none
 |et+1,d=>
  cond (decide (d<(c.length:Int))) ((idx c d).bind λ e=>
  (idx b.H.Words e).bind λ a=>
  cond (!decide (a=0)) (cond (!((cF b.dz a).getD false)) (some (.out 5)) (wJ b c et (ar (d+1)))) (wJ b c et (ar (d+1)))) (some (.go ()))
def zr(F:Nat)(a:bg)(b:List Int):Nat->Int->Option (Way (Int) (Unit))
 |0,_=>none
 |bL+1,Ah=>
  cond (decide (Ah<(b.length:Int))) (cU (α:=Unit) ((idx b Ah).bind λ c=>
  (qd F (⟨(⟨a.H.Words,a.H.av,a.H.aL,a.H.aU,a.H.aT,a.H.aS,a.H.Next⟩:aR),(⟨(⟨a.S.K.aY,a.S.K.aW,a.S.K.Fields,a.S.K.Names,a.S.K.aX⟩:aP)⟩:b4),a.av,a.aL,a.dz⟩:bg) c).bind λ d=>
  cU (α:=Unit) (wJ a d F 0) λ(_:Unit)=>
  some (.go ())) λ(_:Unit)=>
  zr F a b bL (ar (Ah+1))) (some (.go ()))
def F4(F:Nat)(a:bg):Option (Int):=
 (zq F (⟨(⟨a.H.Words,a.H.av,a.H.aL,a.H.aU,a.H.aT,a.H.aS,a.H.Next⟩:aR),(⟨(⟨a.S.K.aY,a.S.K.aW,a.S.K.Fields,a.S.K.Names,a.S.K.aX⟩:aP)⟩:b4),a.av,a.aL,a.dz⟩:bg)).bind λ g=>
 ca (α:=Unit) (zr F a g F 0) λ(_:Unit)=>
 (cut a.H.Words 0 1).bind λ b=>
 (cut a.H.Words a.H.aU (ar (a.H.av+1))).bind λ c=>
 (cut a.H.Words a.H.aT (a.H.Words.length:Int)).bind λ d=>
 (G8 F [b,c,d]).bind λ e=>
 (Qd F e).bind λ f=>
 cond (f) (some 1) (some 0)
def NP(c:Int)(a:bg):Option (Bool):=
 (idx a.H.Words c).bind λ b=>
 (F1 (⟨(⟨a.H.Words,a.H.av,a.H.aL,a.H.aU,a.H.aT,a.H.aS,a.H.Next⟩:aR),(⟨(⟨a.S.K.aY,a.S.K.aW,a.S.K.Fields,a.S.K.Names,a.S.K.aX⟩:aP)⟩:b4),a.av,a.aL,a.dz⟩:bg) b).bind λ d=>
 some d
def AL(s_:List Int)(a:bg):Nat->Int->Option (Way (Int) (Unit))
 |0,_=>none
 |bL+1,b=>
  cond (decide (b<(s_.length:Int))) ((idx s_ b).bind λ c=>
  (NP c (⟨(⟨a.H.Words,a.H.av,a.H.aL,a.H.aU,a.H.aT,a.H.aS,a.H.Next⟩:aR),(⟨(⟨a.S.K.aY,a.S.K.aW,a.S.K.Fields,a.S.K.Names,a.S.K.aX⟩:aP)⟩:b4),a.av,a.aL,a.dz⟩:bg)).bind λ d=>
  cond (d) (some (.out b)) (AL s_ a bL (ar (b+1)))) (some (.go ()))
def Qh(F:Nat)(s_:List Int)(a:bg):Option (Int):=
 ca (α:=Unit) (AL s_ a F 0) λ(_:Unit)=>
 some (-1)
def Qc(F:Nat)(s_:List Int)(a:bg):Option (Bool):=
 (Qh F s_ (⟨(⟨a.H.Words,a.H.av,a.H.aL,a.H.aU,a.H.aT,a.H.aS,a.H.Next⟩:aR),(⟨(⟨a.S.K.aY,a.S.K.aW,a.S.K.Fields,a.S.K.Names,a.S.K.aX⟩:aP)⟩:b4),a.av,a.aL,a.dz⟩:bg)).bind λ b=>
 some (decide (0<=b))
def tO(F:Nat)(a:bg):Nat->Int->Option (Way (Int) (Unit))
 |0,_=>none
 |bL+1,c=>
  cond (decide (c<(a.H.aS.length:Int))) ((idx a.H.aS c).bind λ b=>
  cond (decide (0<c)) ((idx a.H.aS (ar (c-1))).bind λ d=>
  cond (decide (b<=d)) (some (.out 4)) (cond (!((cF a.dz b).getD false)) (some (.out 4)) ((F1 (⟨(⟨a.H.Words,a.H.av,a.H.aL,a.H.aU,a.H.aT,a.H.aS,a.H.Next⟩:aR),(⟨(⟨a.S.K.aY,a.S.K.aW,a.S.K.Fields,a.S.K.Names,a.S.K.aX⟩:aP)⟩:b4),a.av,a.aL,a.dz⟩:bg) b).bind λ g=>
  cond (g) (some (.out 4)) ((qd F (⟨(⟨a.H.Words,a.H.av,a.H.aL,a.H.aU,a.H.aT,a.H.aS,a.H.Next⟩:aR),(⟨(⟨a.S.K.aY,a.S.K.aW,a.S.K.Fields,a.S.K.Names,a.S.K.aX⟩:aP)⟩:b4),a.av,a.aL,a.dz⟩:bg) b).bind λ h=>
  cond (decide ((h.length:Int)=0)) (some (.out 4)) (tO F a bL (ar (c+1))))))) (cond (!((cF a.dz b).getD false)) (some (.out 4)) ((F1 (⟨(⟨a.H.Words,a.H.av,a.H.aL,a.H.aU,a.H.aT,a.H.aS,a.H.Next⟩:aR),(⟨(⟨a.S.K.aY,a.S.K.aW,a.S.K.Fields,a.S.K.Names,a.S.K.aX⟩:aP)⟩:b4),a.av,a.aL,a.dz⟩:bg) b).bind λ e=>
  cond (e) (some (.out 4)) ((qd F (⟨(⟨a.H.Words,a.H.av,a.H.aL,a.H.aU,a.H.aT,a.H.aS,a.H.Next⟩:aR),(⟨(⟨a.S.K.aY,a.S.K.aW,a.S.K.Fields,a.S.K.Names,a.S.K.aX⟩:aP)⟩:b4),a.av,a.aL,a.dz⟩:bg) b).bind λ f=>
  cond (decide ((f.length:Int)=0)) (some (.out 4)) (tO F a bL (ar (c+1))))))) (some (.go ()))
def wI(F:Nat)(a:bg):Nat->Int->Option (Way (Int) (Unit))
 |0,_=>none
 |et+1,c=>
  cond (decide (c<(a.aL.length:Int))) ((idx a.aL c).bind λ b=>
  (KX F a.H.aS b).bind λ d=>
  cond (!d.2) ((qd F (⟨(⟨a.H.Words,a.H.av,a.H.aL,a.H.aU,a.H.aT,a.H.aS,a.H.Next⟩:aR),(⟨(⟨a.S.K.aY,a.S.K.aW,a.S.K.Fields,a.S.K.Names,a.S.K.aX⟩:aP)⟩:b4),a.av,a.aL,a.dz⟩:bg) b).bind λ e=>
  (Qc F e (⟨(⟨a.H.Words,a.H.av,a.H.aL,a.H.aU,a.H.aT,a.H.aS,a.H.Next⟩:aR),(⟨(⟨a.S.K.aY,a.S.K.aW,a.S.K.Fields,a.S.K.Names,a.S.K.aX⟩:aP)⟩:b4),a.av,a.aL,a.dz⟩:bg)).bind λ f=>
  cond (f) (some (.out 4)) (wI F a et (ar (c+1)))) (wI F a et (ar (c+1)))) (some (.go ()))
def F3(F:Nat)(a:bg):Option (Int):=
 ca (α:=Unit) (tO F a F 0) λ(_:Unit)=>
 ca (α:=Unit) (wI F a F 0) λ(_:Unit)=>
 some 0
end I
namespace I
def tP(F:Nat)(a:aR)(b:aP):Option ((Option bg)×Int):=
 (F5 (⟨a.Words,a.av,a.aL,a.aU,a.aT,a.aS,a.Next⟩:aR)).bind λ e=>
 cond (!decide (e=0)) (some ((none:Option bg),e)) ((mK F (⟨(⟨a.Words,a.av,a.aL,a.aU,a.aT,a.aS,a.Next⟩:aR),(⟨(⟨b.aY,b.aW,b.Fields,b.Names,b.aX⟩:aP)⟩:b4),[],[],[]⟩:bg) 1 a.aU).bind λ c=>
 (mK F (⟨(⟨a.Words,a.av,a.aL,a.aU,a.aT,a.aS,a.Next⟩:aR),(⟨(⟨b.aY,b.aW,b.Fields,b.Names,b.aX⟩:aP)⟩:b4),[],[],c.2.2.dz⟩:bg) (ar (a.av+1)) a.aT).bind λ om=>
 cond ((!c.2.1)||(!om.2.1)) (some ((none:Option bg),1)) ((F2 F (⟨(⟨a.Words,a.av,a.aL,a.aU,a.aT,a.aS,a.Next⟩:aR),(⟨(⟨b.aY,b.aW,b.Fields,b.Names,b.aX⟩:aP)⟩:b4),c.1,om.1,om.2.2.dz⟩:bg)).bind λ d=>
 cond (!decide (d=0)) (some ((none:Option bg),d)) ((F4 F (⟨(⟨a.Words,a.av,a.aL,a.aU,a.aT,a.aS,a.Next⟩:aR),(⟨(⟨b.aY,b.aW,b.Fields,b.Names,b.aX⟩:aP)⟩:b4),c.1,om.1,om.2.2.dz⟩:bg)).bind λ f=>
 cond (!decide (f=0)) (some ((none:Option bg),f)) ((F3 F (⟨(⟨a.Words,a.av,a.aL,a.aU,a.aT,a.aS,a.Next⟩:aR),(⟨(⟨b.aY,b.aW,b.Fields,b.Names,b.aX⟩:aP)⟩:b4),c.1,om.1,om.2.2.dz⟩:bg)).bind λ g=>
 cond (!decide (g=0)) (some ((none:Option bg),g)) (some ((some (⟨(⟨a.Words,a.av,a.aL,a.aU,a.aT,a.aS,a.Next⟩:aR),(⟨(⟨b.aY,b.aW,b.Fields,b.Names,b.aX⟩:aP)⟩:b4),c.1,om.1,om.2.2.dz⟩:bg)),0))))))
end I
namespace I
def kC(F:Nat)(b:aR)(a:aP):Option ((Option bg)×Int):=
 (pc F (⟨a.aY,a.aW,a.Fields,a.Names,a.aX⟩:aP)).bind λ c=>
 cond (!decide (c=0)) (some ((none:Option bg),c)) ((tP F (⟨b.Words,b.av,b.aL,b.aU,b.aT,b.aS,b.Next⟩:aR) (⟨a.aY,a.aW,a.Fields,a.Names,a.aX⟩:aP)).bind λ d=>
 some (d.1,d.2))
def Qb(s_:List Int):Option (List Int):=
 (bD 8 ([]:List Int) s_).bind λ a=>
 some a
def nY(a:aR):Option (aR):=
 (Qb a.Words).bind λ b=>
 (Qb a.aS).bind λ c=>
 some (⟨b,a.av,a.aL,a.aU,a.aT,c,a.Next⟩:aR)
def Vh(a:aR)(i:Int)(b:Int)(j:Bool):Option (Int×Bool×aR):=
 cond (j) (cond (decide ((ar ((ar ((ar (a.av+a.aL))+1))-a.aT))<(ar (3+b)))) (some (0,false,(⟨a.Words,a.av,a.aL,a.aU,a.aT,a.aS,a.Next⟩:aR))) ((idx a.Words a.aT).bind λ k=>
 (some (a.Words.set (a.aT).toNat i)).bind λ c=>
 (idx c (ar (a.aT+1))).bind λ p=>
 (some (c.set (ar (a.aT+1)).toNat b)).bind λ d=>
 (idx d (ar (a.aT+2))).bind λ l=>
 (some (d.set (ar (a.aT+2)).toNat a.Next)).bind λ g=>
 some (a.aT,true,(⟨g,a.av,a.aL,a.aU,ar (a.aT+(ar (3+b))),a.aS,ar (a.Next+1)⟩:aR)))) (cond (decide ((ar ((ar (a.av+1))-a.aU))<(ar (3+b)))) (some (0,false,(⟨a.Words,a.av,a.aL,a.aU,a.aT,a.aS,a.Next⟩:aR))) ((idx a.Words a.aU).bind λ m=>
 (some (a.Words.set (a.aU).toNat i)).bind λ e=>
 (idx e (ar (a.aU+1))).bind λ n=>
 (some (e.set (ar (a.aU+1)).toNat b)).bind λ f=>
 (idx f (ar (a.aU+2))).bind λ o=>
 (some (f.set (ar (a.aU+2)).toNat a.Next)).bind λ h=>
 some (a.aU,true,(⟨h,a.av,a.aL,ar (a.aU+(ar (3+b))),a.aT,a.aS,ar (a.Next+1)⟩:aR))))
def af7(F:Nat)(a:aR)(d:aP)(i:Int)(j:Int)(k:Bool):Option (aR×Int×Int):=
 (kC F (⟨a.Words,a.av,a.aL,a.aU,a.aT,a.aS,a.Next⟩:aR) (⟨d.aY,d.aW,d.Fields,d.Names,d.aX⟩:aP)).bind λ g=>
 dB (α:=Int) (cond (decide (g.2=0)) ((g.1).bind λ e=>
 (Vi (⟨(⟨e.S.K.aY,e.S.K.aW,e.S.K.Fields,e.S.K.Names,e.S.K.aX⟩:aP)⟩:b4) i j).bind λ h=>
 some h) (some g.2)) λ(f:Int)=>
 cond (!decide (f=0)) (some ((⟨[],0,0,0,0,[],0⟩:aR),0,f)) ((nY (⟨a.Words,a.av,a.aL,a.aU,a.aT,a.aS,a.Next⟩:aR)).bind λ b=>
 (Vh (⟨b.Words,b.av,b.aL,b.aU,b.aT,b.aS,b.Next⟩:aR) i j k).bind λ c=>
 cond (!c.2.1) (some ((⟨[],0,0,0,0,[],0⟩:aR),0,8)) (some ((⟨c.2.2.Words,b.av,b.aL,c.2.2.aU,c.2.2.aT,b.aS,c.2.2.Next⟩:aR),c.1,0)))
end I
namespace I
def vN(b:List Int)(c:List Int):Nat->Int->Option (Way (Bool) (Unit))
 |0,_=>none
 |bL+1,a=>
  cond (decide (a<(b.length:Int))) ((idx b a).bind λ d=>
  (idx c a).bind λ e=>
  cond (!decide (d=e)) (some (.out false)) (vN b c bL (ar (a+1)))) (some (.go ()))
def k1(F:Nat)(a:List Int)(b:List Int):Option (Bool):=
 cond (!decide ((a.length:Int)=(b.length:Int))) (some false) (ca (α:=Unit) (vN a b F 0) λ(_:Unit)=>
 some true)
def B8(F:Nat)(a:aR)(b:aR):Option (Bool):=
 (k1 F a.Words b.Words).bind λ c=>
 cond ((((c&&(decide (a.av=b.av)))&&(decide (a.aL=b.aL)))&&(decide (a.aU=b.aU)))&&(decide (a.aT=b.aT))) ((k1 F a.aS b.aS).bind λ d=>
 some (d&&(decide (a.Next=b.Next)))) (some false)
def nE(F:Nat)(a:aR)(e_:Int)(i:Int)(Ed:aR):Option (Bool):=
 dB (α:=(List Int)×Int×Int×Int×Int×(List Int)×Int) (cond (!decide (i=0)) (some ([],0,0,0,0,[],0)) (some (Ed.Words,Ed.av,Ed.aL,Ed.aU,Ed.aT,Ed.aS,Ed.Next))) λ((b,c,d,e,f,g,h):(List Int)×Int×Int×Int×Int×(List Int)×Int)=>
 cond (decide (e_=i)) ((B8 F (⟨a.Words,a.av,a.aL,a.aU,a.aT,a.aS,a.Next⟩:aR) (⟨b,c,d,e,f,g,h⟩:aR)).bind λ j=>
 some j) (some false)
end I
namespace I
def E9(b:aP)(a:Int):Option (Bool):=
 some ((decide (1<=a))&&(decide (a<(ar (3+(b.aY.length:Int))))))
def E8(c:aP)(b:Int)(dg:Int):Option (Bool):=
 (fL dg 0 500).bind λ d=>
 cond (d) (cond (decide (b<3)) (some true) ((idx c.Fields (ar (b-3))).bind λ a=>
 some (decide (dg=(a.length:Int))))) (some false)
def tl(d:aP)(a:Int)(dg:Int):Option (Bool):=
 cond (decide (a=2)) (some true) (cond (decide (3<=a)) ((idx d.Fields (ar (a-3))).bind λ b=>
 (idx b dg).bind λ c=>
 some (!decide (c.Kind.Kind=1))) (some false))
def yP(c:aR)(a:aP)(e:Int):Nat->(List Int)->Int->Option (Way ((List Int)×Bool) ((List Int)×Int))
 |0,_,_=>none
 |bL+1,d,b=>
  cond (decide (b<e)) (cond (decide (e<(ar (b+3)))) (some (.out ([],false))) ((idx c.Words b).bind λ f=>
  (E9 (⟨a.aY,a.aW,a.Fields,a.Names,a.aX⟩:aP) f).bind λ g=>
  cond (!g) (some (.out ([],false))) ((idx c.Words b).bind λ h=>
  (idx c.Words (ar (b+1))).bind λ i=>
  (E8 (⟨a.aY,a.aW,a.Fields,a.Names,a.aX⟩:aP) h i).bind λ j=>
  cond (!j) (some (.out ([],false))) ((bD 8 d [b]).bind λ k=>
  (idx c.Words (ar (b+1))).bind λ l=>
  yP c a e bL k (ar (b+(ar (3+l)))))))) (some (.go (d,b)))
def rq(F:Nat)(d:aR)(e:aP)(from_:Int)(c:Int):Option ((List Int)×Bool):=
 ca (α:=(List Int)×Int) (yP d e c F [] from_) λ((a,b):(List Int)×Int)=>
 some (a,decide (b=c))
def BV(a:List Int)(dg:Int):Nat->Int->Option (Way (Bool) (Unit))
 |0,_=>none
 |bL+1,b=>
  cond (decide (b<(a.length:Int))) ((idx a b).bind λ c=>
  cond (decide (c=dg)) (some (.out true)) (BV a dg bL (ar (b+1)))) (some (.go ()))
def j9(F:Nat)(a:List Int)(dg:Int):Option (Bool):=
 ca (α:=Unit) (BV a dg F 0) λ(_:Unit)=>
 some false
def vL(at_:Int)(c:aR)(a:aP):Nat->(List Int)->Int->Option (List Int)
 |0,_,_=>none
 |bL+1,d,b=>
  (idx c.Words (ar (at_+1))).bind λ e=>
  cond (decide (b<e)) (dB (α:=List Int) ((idx c.Words at_).bind λ f=>
  (tl (⟨a.aY,a.aW,a.Fields,a.Names,a.aX⟩:aP) f b).bind λ g=>
  cond (g) ((bD 8 d [ar ((ar (at_+3))+b)]).bind λ h=>
  some h) (some d)) λ(i:List Int)=>
  vL at_ c a bL i (ar (b+1))) (some d)
def oQ(F:Nat)(b:aR)(c:aP)(at_:Int):Option (List Int):=
 dB (α:=List Int) (vL at_ b c F [] 0) λ(a:List Int)=>
 some a
def oR(F:Nat)(a:aR)(b:aP):Option ((List Int)×(List Int)×Bool):=
 (rq F (⟨a.Words,a.av,a.aL,a.aU,a.aT,a.aS,a.Next⟩:aR) (⟨b.aY,b.aW,b.Fields,b.Names,b.aX⟩:aP) 1 a.aU).bind λ c=>
 (rq F (⟨a.Words,a.av,a.aL,a.aU,a.aT,a.aS,a.Next⟩:aR) (⟨b.aY,b.aW,b.Fields,b.Names,b.aX⟩:aP) (ar (a.av+1)) a.aT).bind λ d=>
 some (c.1,d.1,c.2&&d.2)
end I
namespace I
def BD(a:aR)(b:List Int):Nat->Int->Option (Way (Int) (Unit))
 |0,_=>none
 |bL+1,c=>
  cond (decide (c<(b.length:Int))) ((idx b c).bind λ d=>
  (idx a.Words (ar (d+2))).bind λ f=>
  (fL f 1 (ar (a.Next-1))).bind λ e=>
  cond (!e) (some (.out 3)) (BD a b bL (ar (c+1)))) (some (.go ()))
def BE(a:aR)(b:List Int)(c:Int):Nat->Int->Option (Way (Int) (Unit))
 |0,_=>none
 |ht+1,d=>
  cond (decide (d<c)) ((idx b c).bind λ e=>
  (idx a.Words (ar (e+2))).bind λ f=>
  (idx b d).bind λ g=>
  (idx a.Words (ar (g+2))).bind λ h=>
  cond (decide (f=h)) (some (.out 6)) (BE a b c ht (ar (d+1)))) (some (.go ()))
def yF(F:Nat)(c:aR)(a:List Int):Nat->Int->Option (Way (Int) (Unit))
 |0,_=>none
 |et+1,b=>
  cond (decide (b<(a.length:Int))) (cU (α:=Unit) (cU (α:=Unit) (BE c a b F 0) λ(_:Unit)=>
  some (.go ())) λ(_:Unit)=>
  yF F c a et (ar (b+1))) (some (.go ()))
def yG(F:Nat)(c:aR)(d:List Int)(a:List Int):Nat->Int->Option (Way (Int) (Unit))
 |0,_=>none
 |tY+1,b=>
  cond (decide (b<(a.length:Int))) ((idx a b).bind λ e=>
  (idx c.Words e).bind λ f=>
  cond (!decide (f=0)) ((idx a b).bind λ g=>
  (idx c.Words g).bind λ h=>
  (j9 F d h).bind λ i=>
  cond (!i) (some (.out 5)) (yG F c d a tY (ar (b+1)))) (yG F c d a tY (ar (b+1)))) (some (.go ()))
def BF(F:Nat)(a:aR)(b:aP)(c:List Int):Nat->Int->Option (Way (Int) (Unit))
 |0,_=>none
 |l4+1,d=>
  cond (decide (d<(c.length:Int))) (cU (α:=Unit) ((idx c d).bind λ e=>
  (oQ F (⟨a.Words,a.av,a.aL,a.aU,a.aT,a.aS,a.Next⟩:aR) (⟨b.aY,b.aW,b.Fields,b.Names,b.aX⟩:aP) e).bind λ f=>
  cU (α:=Unit) (yG F a c f F 0) λ(_:Unit)=>
  some (.go ())) λ(_:Unit)=>
  BF F a b c l4 (ar (d+1))) (some (.go ()))
def vI(a:aR):Nat->Int->Option (Way (Int) (Unit))
 |0,_=>none
 |zF+1,b=>
  cond (decide (b<(a.Words.length:Int))) ((idx a.Words b).bind λ c=>
  cond (!decide (c=0)) (cond (decide (b=0)) (some (.out 1)) ((fL b a.aU a.av).bind λ d=>
  cond (d||(decide (a.aT<=b))) (some (.out 1)) (vI a zF (ar (b+1))))) (vI a zF (ar (b+1)))) (some (.go ()))
def pU(F:Nat)(a:aR)(b:aP)(eg:(List Int)×(List Int)×Bool):Nat->Int->Option (Way (Int) (Unit))
 |0,_=>none
 |Oo+1,c=>
  cond (decide (c<(a.aS.length:Int))) (cond (decide (0<c)) ((idx a.aS c).bind λ d=>
  (idx a.aS (ar (c-1))).bind λ e=>
  cond (decide (d<=e)) (some (.out 4)) ((idx a.aS c).bind λ f=>
  (j9 F eg.2.1 f).bind λ l=>
  cond (!l) (some (.out 4)) ((idx a.aS c).bind λ g=>
  (oQ F (⟨a.Words,a.av,a.aL,a.aU,a.aT,a.aS,a.Next⟩:aR) (⟨b.aY,b.aW,b.Fields,b.Names,b.aX⟩:aP) g).bind λ m=>
  cond (decide ((m.length:Int)=0)) (some (.out 4)) (pU F a b eg Oo (ar (c+1)))))) ((idx a.aS c).bind λ h=>
  (j9 F eg.2.1 h).bind λ i=>
  cond (!i) (some (.out 4)) ((idx a.aS c).bind λ j=>
  (oQ F (⟨a.Words,a.av,a.aL,a.aU,a.aT,a.aS,a.Next⟩:aR) (⟨b.aY,b.aW,b.Fields,b.Names,b.aX⟩:aP) j).bind λ k=>
  cond (decide ((k.length:Int)=0)) (some (.out 4)) (pU F a b eg Oo (ar (c+1)))))) (some (.go ()))
def rm(F:Nat)(a:aR)(eg:(List Int)×(List Int)×Bool)(c:Int)(b:List Int):Nat->Int->Option (Way (Int) (Unit))
 |0,_=>none
 |Oq+1,sl=>
  cond (decide (sl<(b.length:Int))) ((idx b sl).bind λ d=>
  (idx a.Words d).bind λ e=>
  (fL e 1 a.av).bind λ f=>
  cond (f) ((idx eg.2.1 c).bind λ g=>
  (j9 F a.aS g).bind λ h=>
  cond (!h) (some (.out 4)) (rm F a eg c b Oq (ar (sl+1)))) (rm F a eg c b Oq (ar (sl+1)))) (some (.go ()))
def tf(F:Nat)(a:aR)(b:aP)(eg:(List Int)×(List Int)×Bool):Nat->Int->Option (Way (Int) (Unit))
 |0,_=>none
 |Ww+1,c=>
  cond (decide (c<(eg.2.1.length:Int))) (cU (α:=Unit) ((idx eg.2.1 c).bind λ d=>
  (oQ F (⟨a.Words,a.av,a.aL,a.aU,a.aT,a.aS,a.Next⟩:aR) (⟨b.aY,b.aW,b.Fields,b.Names,b.aX⟩:aP) d).bind λ e=>
  cU (α:=Unit) (rm F a eg c e F 0) λ(_:Unit)=>
  some (.go ())) λ(_:Unit)=>
  tf F a b eg Ww (ar (c+1))) (some (.go ()))
def E7(F:Nat)(a:aR)(b:aP):Option (Int):=
 (fL a.av 3 2000).bind λ e=>
 cond (!e) (some 3) ((fL a.aL 3 2000).bind λ f=>
 cond (!f) (some 3) (cond (!decide ((a.Words.length:Int)=(ar ((ar (1+a.av))+a.aL)))) (some 1) ((fL a.aU 1 (ar (a.av+1))).bind λ g=>
 cond (!g) (some 3) ((fL a.aT (ar (a.av+1)) (ar ((ar (a.av+a.aL))+1))).bind λ om=>
 cond ((!om)||(decide (a.Next<1))) (some 3) ((oR F (⟨a.Words,a.av,a.aL,a.aU,a.aT,a.aS,a.Next⟩:aR) (⟨b.aY,b.aW,b.Fields,b.Names,b.aX⟩:aP)).bind λ eg=>
 cond (!eg.2.2) (some 1) ((bD 8 ([]:List Int) eg.1).bind λ c=>
 (bD 8 c eg.2.1).bind λ d=>
 ca (α:=Unit) (BD a d F 0) λ(_:Unit)=>
 ca (α:=Unit) (yF F a d F 0) λ(_:Unit)=>
 ca (α:=Unit) (BF F a b d F 0) λ(_:Unit)=>
 ca (α:=Unit) (vI a F 0) λ(_:Unit)=>
 ca (α:=Unit) (pU F a b eg F 0) λ(_:Unit)=>
 ca (α:=Unit) (tf F a b eg F 0) λ(_:Unit)=>
 some 0))))))
def pW(F:Nat)(b:aR)(a:aP):Option (Int):=
 (vK F (⟨a.aY,a.aW,a.Fields,a.Names,a.aX⟩:aP)).bind λ c=>
 cond (decide (c=0)) ((E7 F (⟨b.Words,b.av,b.aL,b.aU,b.aT,b.aS,b.Next⟩:aR) (⟨a.aY,a.aW,a.Fields,a.Names,a.aX⟩:aP)).bind λ d=>
 some d) (some c)
end I
namespace I
def abP(a:aR):Option (Int):=
 some (ar ((ar ((ar ((ar (a.av+a.aL))+1))-a.aT))- (ar (a.aU-1))))
def an1(F:Nat)(a:aR)(b:aP):Option (Int×Int):=
 (kC F (⟨a.Words,a.av,a.aL,a.aU,a.aT,a.aS,a.Next⟩:aR) (⟨b.aY,b.aW,b.Fields,b.Names,b.aX⟩:aP)).bind λ c=>
 cond (!decide (c.2=0)) (some (0,c.2)) ((abP (⟨a.Words,a.av,a.aL,a.aU,a.aT,a.aS,a.Next⟩:aR)).bind λ d=>
 some (d,0))
def acs(a:aR):Option (Int):=
 some (ar ((ar ((ar ((ar ((ar (a.av+a.aL))+1))-a.aT))-a.aU))+1))
end I
namespace I
def RJ(at_:Int)(a:bg):Option (Bool):=
 cond (!decide (at_=0)) ((F0 (⟨(⟨a.H.Words,a.H.av,a.H.aL,a.H.aU,a.H.aT,a.H.aS,a.H.Next⟩:aR),(⟨(⟨a.S.K.aY,a.S.K.aW,a.S.K.Fields,a.S.K.Names,a.S.K.aX⟩:aP)⟩:b4),a.av,a.aL,a.dz⟩:bg) at_).bind λ b=>
 some (!b)) (some false)
def AN(s_:List Int)(a:bg):Nat->Int->Option (Way (Int) (Unit))
 |0,_=>none
 |bL+1,b=>
  cond (decide (b<(s_.length:Int))) ((idx s_ b).bind λ c=>
  (RJ c (⟨(⟨a.H.Words,a.H.av,a.H.aL,a.H.aU,a.H.aT,a.H.aS,a.H.Next⟩:aR),(⟨(⟨a.S.K.aY,a.S.K.aW,a.S.K.Fields,a.S.K.Names,a.S.K.aX⟩:aP)⟩:b4),a.av,a.aL,a.dz⟩:bg)).bind λ d=>
  cond (d) (some (.out b)) (AN s_ a bL (ar (b+1)))) (some (.go ()))
def Qj(F:Nat)(s_:List Int)(a:bg):Option (Int):=
 ca (α:=Unit) (AN s_ a F 0) λ(_:Unit)=>
 some (-1)
def Qf(F:Nat)(s_:List Int)(a:bg):Option (Bool):=
 (Qj F s_ (⟨(⟨a.H.Words,a.H.av,a.H.aL,a.H.aU,a.H.aT,a.H.aS,a.H.Next⟩:aR),(⟨(⟨a.S.K.aY,a.S.K.aW,a.S.K.Fields,a.S.K.Names,a.S.K.aX⟩:aP)⟩:b4),a.av,a.aL,a.dz⟩:bg)).bind λ b=>
 some (decide (0<=b))
def ER(F:Nat)(a:bg)(b:List Int):Option (Int):=
 cond (decide (1000<(b.length:Int))) (some 2) ((Qf F b (⟨(⟨a.H.Words,a.H.av,a.H.aL,a.H.aU,a.H.aT,a.H.aS,a.H.Next⟩:aR),(⟨(⟨a.S.K.aY,a.S.K.aW,a.S.K.Fields,a.S.K.Names,a.S.K.aX⟩:aP)⟩:b4),a.av,a.aL,a.dz⟩:bg)).bind λ c=>
 cond (c) (some 5) (some 0))
def pV(F:Nat)(a:List Int)(c:(List Int)×(List Int)×Bool):Nat->Int->Option (Way (Int) (Unit))
 |0,_=>none
 |bL+1,b=>
  cond (decide (b<(a.length:Int))) ((idx a b).bind λ d=>
  cond (!decide (d=0)) ((idx a b).bind λ e=>
  (j9 F c.1 e).bind λ f=>
  cond (!f) ((idx a b).bind λ g=>
  (j9 F c.2.1 g).bind λ h=>
  cond (!h) (some (.out 5)) (pV F a c bL (ar (b+1)))) (pV F a c bL (ar (b+1)))) (pV F a c bL (ar (b+1)))) (some (.go ()))
def yK(F:Nat)(a:aR)(b:aP)(c:List Int):Option (Int):=
 cond (decide (1000<(c.length:Int))) (some 2) ((oR F (⟨a.Words,a.av,a.aL,a.aU,a.aT,a.aS,a.Next⟩:aR) (⟨b.aY,b.aW,b.Fields,b.Names,b.aX⟩:aP)).bind λ d=>
 ca (α:=Unit) (pV F c d F 0) λ(_:Unit)=>
 some 0)
def s7(F:Nat)(a:aR)(b:aP)(d:List Int):Option (Int):=
 (pW F (⟨a.Words,a.av,a.aL,a.aU,a.aT,a.aS,a.Next⟩:aR) (⟨b.aY,b.aW,b.Fields,b.Names,b.aX⟩:aP)).bind λ c=>
 cond (decide (c=0)) ((yK F (⟨a.Words,a.av,a.aL,a.aU,a.aT,a.aS,a.Next⟩:aR) (⟨b.aY,b.aW,b.Fields,b.Names,b.aX⟩:aP) d).bind λ e=>
 some e) (some c)
end I
namespace I
def acu(b:List Int)(dg:Int):Nat->Int->Option (Way (Int) (Unit))
 |0,_=>none
 |bL+1,a=>
  cond (decide (a<(b.length:Int))) ((idx b a).bind λ c=>
  cond (decide (c=dg)) (some (.out a)) (acu b dg bL (ar (a+1)))) (some (.go ()))
def BZ(F:Nat)(a:List Int)(dg:Int):Option (Int):=
 ca (α:=Unit) (acu a dg F 0) λ(_:Unit)=>
 some (-1)
def H5(F:Nat)(at_:Int)(c:aR)(a:List Int):Option (List Int):=
 (fL at_ 1 c.av).bind λ d=>
 cond (d) ((j9 F a at_).bind λ e=>
 cond (!e) ((bD 8 a [at_]).bind λ b=>
 some b) (some a)) (some a)
end I
namespace I
def E1(F:Nat)(at_:Int)(b:List Int):Option (Int×(List Int)):=
 cond (decide (at_=0)) (some (0,b)) ((BZ F b at_).bind λ c=>
 cond (decide (c<0)) ((bD 8 b [at_]).bind λ a=>
 some (ar ((ar ((a.length:Int)-1))+1),a)) (some (ar (c+1),b)))
def acm(F:Nat)(c:List Int):Nat->(List Int)->(List Int)->Int->Option ((List Int)×(List Int))
 |0,_,_,_=>none
 |bL+1,g,a,d=>
  cond (decide (d<(c.length:Int))) ((idx c d).bind λ e=>
  (E1 F e a).bind λ b=>
  (bD 8 g [b.1]).bind λ f=>
  acm F c bL f b.2 (ar (d+1))) (some (g,a))
def acn(F:Nat)(e:aR)(a:aP)(f:Int):Nat->(List Int)->(List Int)->Int->Option ((List Int)×(List Int))
 |0,_,_,_=>none
 |ht+1,b,h,g=>
  (idx e.Words (ar (f+1))).bind λ i=>
  cond (decide (g<i)) (dB (α:=(List Int)×(List Int)) ((idx e.Words (ar ((ar (f+3))+g))).bind λ c=>
  dB (α:=(List Int)×Int) ((idx e.Words f).bind λ j=>
  (tl (⟨a.aY,a.aW,a.Fields,a.Names,a.aX⟩:aP) j g).bind λ k=>
  cond (k) ((E1 F c h).bind λ d=>
  some (d.2,d.1)) (some (h,c))) λ((l,m):(List Int)×Int)=>
  (bD 8 b [m]).bind λ n=>
  some (n,l)) λ((o,p):(List Int)×(List Int))=>
  acn F e a f ht o p (ar (g+1))) (some (b,h))
def E2(F:Nat)(a:aR)(m:aP):Nat->(List Int)->(List Int)->Int->Option ((List Int)×(List Int))
 |0,_,_,_=>none
 |et+1,b,c,Xt=>
  cond (decide (Xt<(c.length:Int))) (dB (α:=(List Int)×(List Int)) ((idx c Xt).bind λ d=>
  (idx a.Words d).bind λ e=>
  (idx a.Words (ar (d+1))).bind λ f=>
  (idx a.Words (ar (d+2))).bind λ g=>
  (bD 8 b [e,f,g]).bind λ h=>
  dB (α:=(List Int)×(List Int)) (acn F a m d F h c 0) λ((i,j):(List Int)×(List Int))=>
  some (i,j)) λ((k,l):(List Int)×(List Int))=>
  E2 F a m et k l (ar (Xt+1))) (some (b,c))
def E0(F:Nat)(d:aR)(e:aP)(f:List Int):Option (List Int):=
 dB (α:=(List Int)×(List Int)) (acm F f F [] [] 0) λ((a,b):(List Int)×(List Int))=>
 dB (α:=(List Int)×(List Int)) (E2 F d e F a b 0) λ((c,g):(List Int)×(List Int))=>
 some c
def Sg(F:Nat)(c:aR)(b:aP)(f:List Int)(a:aR)(d:List Int):Option (Bool):=
 (pW F (⟨a.Words,a.av,a.aL,a.aU,a.aT,a.aS,a.Next⟩:aR) (⟨b.aY,b.aW,b.Fields,b.Names,b.aX⟩:aP)).bind λ g=>
 cond (decide (g=0)) ((yK F (⟨a.Words,a.av,a.aL,a.aU,a.aT,a.aS,a.Next⟩:aR) (⟨b.aY,b.aW,b.Fields,b.Names,b.aX⟩:aP) d).bind λ h=>
 cond ((decide (h=0))&&(decide ((f.length:Int)=(d.length:Int)))) ((E0 F (⟨c.Words,c.av,c.aL,c.aU,c.aT,c.aS,c.Next⟩:aR) (⟨b.aY,b.aW,b.Fields,b.Names,b.aX⟩:aP) f).bind λ i=>
 (E0 F (⟨a.Words,a.av,a.aL,a.aU,a.aT,a.aS,a.Next⟩:aR) (⟨b.aY,b.aW,b.Fields,b.Names,b.aX⟩:aP) d).bind λ j=>
 (k1 F i j).bind λ e=>
 some e) (some false)) (some false)
end I
namespace Go.Proofs.YteeliipnilghaaaGreat
open Go Go.RowKit aq I a8
@[reducible] noncomputable def ag'(F:Nat):h2 bk:=⟨[.p (.B 0),.p (.i .i64)],[.c 117 [.l 134,.M 1,.l 3],.m 9 3],[.p (.R 2)],[.c 117 [.l 134,.M 1,.l 3],.m 9 3,.r 136 false],List I.Field,
  λ d=>uf F ⟨d.2.1.1,d.2.2.1,d.2.1.2.2.1⟩ d.1.2.1,λ d r=>(((),()),((d.2.1.1,(),d.2.1.2.2.1,()),d.2.2.1,r,()))⟩
@[reducible] noncomputable def aha(F:Nat):h2 bk:=⟨[.p (.B 0),.p (.i .i64)],[.c 117 [.l 134,.M 1,.l 3],.m 9 3],[.p (.R 2),.p (.R 3)],[.c 117 [.l 134,.M 1,.l 3],.m 9 3,.r 9 false,.r 166 false],List (List UInt8)×List I.Target,
  λ d=>DF F ⟨d.2.1.1,d.2.2.1,d.2.1.2.2.1⟩ d.1.2.1,λ d r=>(((),(),()),((d.2.1.1,(),d.2.1.2.2.1,()),d.2.2.1,r.1,r.2,()))⟩
noncomputable def Mb(F:Nat):cK aB:=⟨(83,(ag' F).run aB)::(82,(aha F).run aB)::an8.ce,[]⟩
end Go.Proofs.YteeliipnilghaaaGreat
namespace Go.Proofs.YteeliipnilghaaaGreat
open Go Go.RowKit aq
set_option maxHeartbeats 4000000
set_option maxRecDepth 20000
theorem ac7{W:World}{X:List Nat}{F:Nat}{b:I.bp}{dg:Int}{r:List Int}{k:Nat}{l:iC}{m:Nat}{n:Nat}{f:iC}{i:Nat}{M0:List Nat}(c:bs W M0 X W [] [bA.i_ k [.q l m b.l,.map (some n),.q f i b.dl],ch I.kn l m b.l,bA.map mQ (Value.int .i64) n b.bV,ch (e9 .i64) f i b.dl])(h:I.sb F b dg=some r) :
 Calls Tryz.prog 114 [.c0 k,.i dg].toArray W (λ e w'=>∃q:Option Addr,∃s:Nat,∃t:List Value,e= .returned (.q q s r)/\bs W M0 X w' [a7.row 3 1 (.q q s r) r t] [bA.rows (e9 .i64) t r]):=by
 refine enter Tryz.func114 rfl Tryz.ntmps114 rfl λ a ad=>?_;rw[I.sb]at h;refine p7 [] [] ad λ a ad=>p7 [] [(5,.slice none 0 0)] ad λ a ad=>wp_seq_k λ K P=>?_;have c:=c.Kg (α:=Int) 3 1;have c:=c.more (y:=bA.rows (e9 .i64) [] []) rfl;obtain⟨B,h,Vw⟩:=I.fM h
 refine MI (λ a w=>∃(u:iC)(v:Nat)(j:EZ)(Rt:oM),Fr ⟨20,[]⟩ [(5,.q u v j)] a/\bs W M0 X w [a7.row 3 1 (.q u v j) j Rt] [bA.rows (e9 .i64) Rt j,bA.i_ k [.q l m b.l,.map (some n),.q f i b.dl],ch I.kn l m b.l,bA.map mQ (Value.int .i64) n b.bV,ch (e9 .i64) f i b.dl]/\B=j) (λ K Q=>?_) ?_
 ·clear Vw;refine SM (λ(M:Nat) a w=>∃(o:iC)(p:Nat)(g:EZ)(x:oM)(d:Int),Fr ⟨20,[]⟩ [(0,.c0 k),(1,.i d),(5,.q o p g)] a/\bs W M0 X w [a7.row 3 1 (.q o p g) g x] [bA.rows (e9 .i64) x g,bA.i_ k [.q l m b.l,.map (some n),.q f i b.dl],ch I.kn l m b.l,bA.map mQ (Value.int .i64) n b.bV,ch (e9 .i64) f i b.dl]/\I.sc b M g d=some B) F ⟨none,0,[],[],dg,ad.cut,c,h⟩ ?_ ?_
  ·rintro a w ⟨o,p,g,x,d,ad,c,h⟩;exact absurd h (by simp[I.sc])
  rintro M a w ⟨o,p,g,x,d,ad,c,h⟩ K R;rw[I.sc]at h;refine wp_seq_k λ K S=>p7 [] [(7,.bool (decide (0<=d)))] ad λ a ad=>MK (ad.g rfl) h (λ C h=>?_) (λ C h=>?_)
  ·refine wp_skip<|S _ _<|wp_seq_k λ K U=>wp_block<|oU<|k5 2 [] [(15,.q o p g),(16,.i d)] ad λ a ad=>ail (cs:=[.i d]) wn (EP (vs:=[(0,.i d)]) Tryz.underlying22 Tryz.sizeOf3 Tryz.zeroValue3 rfl rfl rfl ⟨⟨(ad.g rfl),rfl⟩,trivial⟩ (by kernel_rfl)) ad c rfl rfl λ a V w _ ad c=>?_;obtain⟨N,D,h⟩:=I.fM h;refine KS (T:=(e9 .i64)) (ml:=[d]) 1 0 0 c rfl rfl rfl Tryz.underlying22 azs rfl rfl D rfl rfl ⟨_,_,rfl,rfl,rfl⟩ wn rfl (ad.g rfl) (ad.g rfl) ad rfl rfl λ a z A E w ad c=>?_
   refine k5 1 [] [(5,.q z A N)] ad λ a ad=>wpList_nil (U _ _ ?_);refine oU<|tw 5 [0,2] [(11,.q f i b.dl),(12,.i d)] [k,2] (gZ (c.d 2 rfl).2.2 gB) ad λ a ad=>?_;obtain⟨O,G,h⟩:=I.fM h;obtain⟨H,J,_,rfl,L⟩:=D7 _ (c.d 5 rfl) G;refine fH wn (pN Tryz.underlying22 Tryz.sizeOf3 rfl (ad.g rfl) (ad.g rfl) H J) ad rfl rfl λ a ad=>tw 2 [0,0] [(1,.i O)] [dm f,fG f+(d).toNat*1] (gZ L gB) ad λ a ad=>wpList_nil ?_;exact R _ _ ⟨z,A,N,E,O,ad.cut,c.hS [0,2,3,4,5],h⟩
  refine wp_exit<|sY (sY (HE ?_));exact Q _ _ ⟨o,p,g,x,ad.cut,c,(os h)⟩
 rintro a w ⟨u,v,j,Rt,ad,c,aA⟩;subst B;have h:=Vw;clear Vw;refine P _ _<|K7 [] [(4,.q u v j)] ad λ a ad=>wp_ret ?_;obtain rfl:=oi h;refine Ax Tryz.results114 ad rfl ?_;exact⟨u,v,Rt,rfl,c.uK [0] [0]⟩
theorem ac8{W:World}{X:List Nat}{s_:List Int}{r:Unit}{c:iC}{d:Nat}{M0:List Nat}(f:bs W M0 X W [] [ch (e9 .i64) c d s_])(h:I.KW s_=some r) :
 Calls Tryz.prog 116 [.q c d s_].toArray W (λ e w'=>∃g:Nat,e= .returned (.func (.func 144) #[] #[.c0 g])/\bs W M0 X w' [a7.b' g 22 [.q c d s_]] []):=by
 refine enter Tryz.func116 rfl Tryz.ntmps116 rfl λ a ad=>?_;clear h;refine wp_seq_k λ K wo=>oU<|Ak (cs:=[.q c d s_]) wn (RA rfl rfl (ad.g rfl)) ad f rfl rfl λ a b w _ ad f=>k5 1 [] [] ad λ a ad=>wpList_nil (wo _ _ ?_);refine K7 [] [(2,.func (.func 144) #[] #[.c0 b])] ad λ a ad=>wp_ret<|Ax Tryz.results116 ad rfl ?_;exact⟨b,rfl,f.uK [0] []⟩
theorem ac5:acg Tryz.prog 144:=by
 intro n d A c fm L w0 aj hy m;refine auT (vs:=[.func (.yield L) #[] #[],.c0 fm]) Tryz.func144 rfl Tryz.ntmps144 rfl (by rintro w ⟨⟨v,h⟩,_⟩;cases h) ?_;intro a ad;obtain⟨W,M0,X,E,f⟩:=aj _ _ m;have g:d.length<=maxLen:=by
  obtain⟨cb,H,e1,e2,e3,_⟩:=(f.d 1 rfl:(bY (e9 .i64)).rd _ _ _ _)
  omega
 refine nc ?_;intro K wo;refine pA (by kernel_rfl) ?_;refine hD 4 [0,1,3] [0,0] (fr':=[(0,.func (.yield L) #[] #[]),(1,.c0 fm),(3,.i (I.ar ((d.length:Int)-1)))]) (L:=[fm,0]) rO (gZ (f.d 0 rfl).2.2 gB) ad (by kernel_rfl) ?_;intro a ad;rw[ak8 g]at ad;refine wpList_nil ?_;refine wo _ _ ?_;refine aad ?_;refine alp (λ k a w=>∃(rem:EZ),k=rem.length+1/\(∃pre,d=rem.reverse++pre)/\Fr ⟨19,[]⟩ [(0,.func (.yield L) #[] #[]),(1,.c0 fm),(3,.i ((rem.length:Int)-1))] a/\n rem w) (d.length+1) ⟨d.reverse,by simp,⟨[],by simp⟩,by rw[kq];exact ad,m⟩ (by rintro a w ⟨rem,h,_⟩;omega) ?_;rintro k a w ⟨rem,j,⟨pre,i⟩,ad,b⟩ K o;refine nc ?_;intro p q;refine nc ?_;intro s t;refine pA (by kernel_rfl) ?_;refine hD 2 [0,1,3,8] [] (fr':=[(0,.func (.yield L) #[] #[]),(1,.c0 fm),(3,.i ((rem.length:Int)-1)),(8,.bool (decide (0<=(rem.length:Int)-1)))]) (L:=[]) rO gB ad (by kernel_rfl) ?_;intro a ad;refine wpList_nil ?_;refine t _ _ ?_;refine aaf (ad.g rfl) (λ af=>?_) (λ af=>?_)
 ·have af:=of_decide_eq_true af
  match rem,af,i,ad,b,j with
  |x::rem,_,i,ad,b,j=>
  have u:=azf i
  have e:((x::rem).length:Int)-1=(rem.length:Int):=by simp
  rw[e]at ad
  refine QH ?_
  refine q _ _ ?_
  refine nc ?_
  intro y z
  refine aad ?_
  refine nc ?_
  intro B C
  refine aHW λ D=>?_
  refine aBD 6 (by kernel_rfl) ?_
  obtain⟨W,M0,X,E,f⟩:=aj _ _ b
  refine hD 4 [0,1,3,11,12,13,14] [0,0] (fr':=[(0,.func (.yield L) #[] #[]),(1,.c0 fm),(3,.i (rem.length:Int)),(11,.func (.yield L) #[] #[]),(12,.i (rem.length:Int)),(13,.q A c d),(14,.i (rem.length:Int))]) (L:=[fm,0]) rO (gZ (f.d 0 rfl).2.2 gB) ad (by kernel_rfl) ?_
  intro a ad
  obtain⟨F,hi,_,rfl,hc⟩:=D7 _ (f.d 1 rfl) u
  refine fH wn (pN Tryz.underlying22 Tryz.sizeOf3 rfl (ad.g rfl) (ad.g rfl) F hi) ad rfl rfl ?_
  intro a ad
  refine hD 1 [0,1,3,11,12,16] [0,0] (fr':=[(0,.func (.yield L) #[] #[]),(1,.c0 fm),(3,.i (rem.length:Int)),(11,.func (.yield L) #[] #[]),(12,.i (rem.length:Int)),(16,.i x)]) (L:=[dm A,fG A+(rem.length:Int).toNat*1]) rO (gZ hc gB) ad (by kernel_rfl) ?_
  intro a ad
  refine wpList_nil ?_
  refine aLk (vs:=[.i (rem.length:Int),.i x]) wn rfl (ad.g rfl) ⟨ad.g rfl,ad.g rfl,trivial⟩ (hy x rem _ b) ad rfl rfl ?_
  rintro _ w ⟨rfl,b⟩
  refine⟨_,rfl,λ a ad=>?_⟩
  refine OO D (by kernel_rfl) ?_
  refine hD 1 [0,1,3,18] [] (fr':=[(0,.func (.yield L) #[] #[]),(1,.c0 fm),(3,.i (rem.length:Int)),(18,.bool false)]) (L:=[]) rO gB ad (by kernel_rfl) ?_
  intro a ad
  refine wpList_nil ?_
  refine C _ _ ?_
  refine aHV (ad.g rfl) rfl ?_
  refine QH ?_
  refine z _ _ ?_
  refine pA (by kernel_rfl) ?_
  refine hD 3 [0,1,3] [] (fr':=[(0,.func (.yield L) #[] #[]),(1,.c0 fm),(3,.i (I.ar ((rem.length:Int)-1)))]) (L:=[]) rO gB ad (by kernel_rfl) ?_
  intro a ad
  have l:rem.length<=maxLen:=by
   have:=congrArg h4 i;simp at this;omega
  rw[ak8 l]at ad
  refine wpList_nil ?_
  exact o _ _ ⟨rem,by simpa using j,⟨x::pre,by rw[i];simp⟩,ad,b⟩
 ·have af:=of_decide_eq_false af
  have G:rem=[]:=by
   cases rem with
   |nil=>rfl
   |cons x r=>exact absurd af (by simp)
  subst G
  refine aag ?_
  refine sY ?_
  refine sY ?_
  refine HE ?_
  refine asr ?_
  refine aFi Tryz.results144 ad ?_
  exact⟨⟨_,rfl⟩,b⟩
theorem asZ{W:World}{X:List Nat}{F:Nat}{f:I.bp}{dg:Int}{r:List I.Field}{o:Nat}{p:iC}{v:Nat}{P:Nat}{Q:iC}{R:Nat}{M0:List Nat}(d:bs W M0 X W [] [bA.i_ o [.q p v f.l,.map (some P),.q Q R f.dl],ch I.kn p v f.l,bA.map mQ (Value.int .i64) P f.bV,ch (e9 .i64) Q R f.dl])(h:I.uf F f dg=some r) :
 Calls Tryz.prog 83 [.c0 o,.i dg].toArray W (λ e w'=>∃x:Option Addr,∃z:Nat,∃B:List Value,e= .returned (.q x z r)/\bs W M0 X w' [a7.row 136 3 (.q x z r) r B] [bA.rows I.jo B r]):=by
 refine ad_ Tryz.func83 rfl Tryz.ntmps83 rfl λ a ad=>?_;rw[I.uf]at h;refine wp_seq_k λ K wo=>oU<|Ak (cs:=[.c0 o]) wn (RA rfl rfl (ad.g rfl)) ad d rfl rfl λ a C w _ ad d=>k5 1 [] [] ad λ a ad=>wpList_nil (wo _ _ ?_);refine wp_seq_k λ K rR=>oU<|Ak (cs:=[.slice none 0 0]) wn (Br Tryz.zeroValue124 rfl rfl) ad d rfl rfl λ a s w _ ad d=>wpList_nil<|rR _ _<|wp_seq_k λ K mI=>wp_seq_k λ K wq=>oU ?_
 refine tw 2 [0,0] [(8,.c0 o),(9,.i dg)] [C,0] (gZ (k4 (d.e 1 rfl)) gB) ad λ a ad=>?_;obtain⟨S,Y,h⟩:=I.fM h;have hc:=d;refine KT (vs:=[.c0 o,.i dg]) wn rfl Tryz.call114 ⟨(ad.g rfl),(ad.g rfl),trivial⟩ (ac7 ((hc.into 0).pick ⟨⟨0,rfl⟩,⟨1,rfl⟩,⟨2,rfl⟩,⟨3,rfl⟩,trivial⟩) Y) ad rfl rfl ?_;rintro _ w ⟨U,V,aML,rfl,t⟩;refine⟨_,rfl,λ a ad=>?_⟩;have d:=hc.back 0 t;clear t hc;obtain⟨YY,Z,h⟩:=I.fM h;have hc:=d;have ai:=hc.freeze 0 0 rfl rfl
 refine KT (vs:=[.q U V S]) wn rfl Tryz.call116 ⟨(ad.g rfl),trivial⟩ (ac8 ((ai.into 0).pick ⟨⟨0,rfl⟩,trivial⟩) Z) ad rfl rfl ?_;rintro _ w ⟨D,rfl,t⟩;refine⟨_,rfl,λ a ad=>?_⟩;have k:bj [] _ w:=t.bS;have d:=hc.gf 0 (by exact trivial) t;clear t hc ai;clear k;refine wpList_nil ?_;have ad:=ad.cut (l':=[(2,.c0 C),(5,.c0 s),(11,.func (.func 144) #[] #[.c0 D])]);refine wq _ _<|wp_block ?_;have d:=d.freeze 1 0 rfl rfl;have d:=d.afg 0 rfl;have d:=d.Kg (α:=I.Field) 136 3
 have d:=d.more (y:=bA.rows I.jo [] []) rfl;obtain⟨azG,VD,h⟩:=I.fM h
 refine ac4 (c:=V) (A:=U) (β:=(Option Addr)×(Nat)×(List I.Field)×(List Value)) (l1:=λ _ u=>[(2,.c0 C),(5,.c0 s),(7,.i u)]) (λ((l,n,i,q):(Option Addr)×(Nat)×(List I.Field)×(List Value))=>[a7.row 136 3 (.q l n i) i q,a7.b' s 124 [.q l n i],a7.b' C 113 [.c0 o]]) (λ((l,n,i,q):(Option Addr)×(Nat)×(List I.Field)×(List Value))=>[bA.rows I.jo q i,bA.i_ D [.q U V S],ch (e9 .i64) U V S,bA.i_ o [.q p v f.l,.map (some P),.q Q R f.dl],ch I.kn p v f.l,bA.map mQ (Value.int .i64) P f.bV,ch (e9 .i64) Q R f.dl]) (λ(P0:EZ)((l,n,i,q):(Option Addr)×(Nat)×(List I.Field)×(List Value))=>I.zL f P0 i=some azG) S (none,0,[],[]) 1 2 ac5 Tryz.call144 ad rfl rfl rfl (d.hS [0,1,2,4,5,6,7]) VD (λ b=>by obtain⟨_,_,_,_⟩:=b;rfl) (λ b=>by obtain⟨_,_,_,_⟩:=b;rfl) ?_ ?_ ?_
 ·clear h VD d ad;intro L azc u w a K ad b1;refine pA (by kernel_rfl)<|k5 1 [] [(7,.i u)] ad λ a ad=>wpList_nil ?_;exact b1 _ ad.cut
 ·clear h VD d ad;intro L g1 gO g2 cZ b azc u P0 w a K h ad d b1;obtain⟨l,n,i,q⟩:=b;dsimp only at h d;rw[I.zL]at h;refine aad<|alo (m:=11) 9 (bj []) (by kernel_rfl) rfl (by kernel_rfl) λ w k=>?_;have d:=d.eQ k;clear k;have g:=d;have j:=bj.refl [] w;refine dW [0,1,2,3,4,5] 6 [0,0,1,0,2,0] [(14,.q l n i),(18,.q p v f.l),(19,.i u)] [o,0,C,0,s,0] (λ dA k=>(gZ (FI k (k4 (g.e 3 rfl))) (gZ (FI k (k4 (g.e 4 rfl))) (gZ (FI k (g.d 3 rfl).2.2) gB)))) ad j λ a ad=>?_;obtain⟨E,ay7,h⟩:=I.fM h
  obtain⟨awr,axN,_,⟨RP,SI,G,H,rfl,J,M⟩,axc⟩:=D7 _ (g.d 4 rfl) ay7;have g:=g.more (y:=ch I.jo RP SI E.Fields) J;have d:=d.more (y:=ch I.jo RP SI E.Fields) J;have g:=g.more (y:=ch I.qQ G H E.bf) M;have d:=d.more (y:=ch I.qQ G H E.bf) M;refine asl 6 rfl (by kernel_rfl) wn (λ dA=>pN Tryz.underlying25 Tryz.sizeOf134 rfl (ad.g rfl) (ad.g rfl) awr axN) j ad rfl rfl λ a ad=>?_
  refine dW [7,8] 2 [0,2] [(22,.q RP SI E.Fields)] [dm p,fG p+(u).toNat*4+2] (λ dA k=>(gZ (FI k axc) gB)) ad j λ a ad=>mB 9 rfl (by kernel_rfl) (λ _=>j) ?_;obtain⟨OG,ax1,h⟩:=I.fM h;refine aGG (T:=I.jo) 2 2 1 d rfl rfl rfl Tryz.underlying124 azr rfl rfl ax1 rfl wn rfl (ad.g rfl) (ad.g rfl) ad rfl rfl λ a N O aKN w ad d=>ka ?_;clear g j;have g:=d;have j:=bj.refl [] w;refine fi.next 10 (bj [] w) (by kernel_rfl)<|mB 10 rfl (by kernel_rfl) (λ _=>j) ?_
  refine xQ (vs:=[.q N O OG]) 3 d rfl wn rfl Tryz.sizeOf124 rfl rfl rfl rfl (ad.g rfl) (ad.g rfl) rfl λ w d=>ka ?_;clear g j;have g:=d;have j:=bj.refl [] w;refine fi.next 11 (bj [] w) (by kernel_rfl)<|Mr (by kernel_rfl) ?_ (λ _=>j);clear g j;have ad:=ad.cut (l':=[]);exact b1 (N,O,OG,aKN) _ _ h (d.hS [0,4,5,6,7,8,9])
 clear d ad;intro aLS b a w VE ad d;obtain⟨l,n,i,q⟩:=b;dsimp only at VE d;rw[I.zL]at VE;obtain rfl:=oi VE;have ad:=ad.cut (l':=[(5,.c0 s)]);refine mI _ _<|wp_seq_k λ K rS=>rg [0,0] [(4,.q l n i)] [s,0] (gZ (k4 (d.e 2 rfl)) gB) ad λ a ad=>rS _ _<|wp_ret ?_;obtain rfl:=oi h;refine aBT 0 Tryz.results83 ad d rfl rfl λ w d=>?_;exact⟨l,n,q,rfl,d.uK [1] [0]⟩
end Go.Proofs.YteeliipnilghaaaGreat
namespace Go.Proofs.YteeliipnilghaaaGreat
open Go Go.RowKit aq
set_option maxHeartbeats 4000000
set_option maxRecDepth 20000
theorem as3{W:World}{X:List Nat}{F:Nat}{s_:List (List UInt8)}{f:List UInt8}{r:Int}{d:iC}{g:Nat}{M0:List Nat}(c:bs W M0 X W [] [ch jn d g s_])(h:I.K6 F s_ f=some r) :
 Calls Tryz.prog 117 [.q d g s_,cj f].toArray W (λ e w'=>e= .returned (.i r)/\bs W M0 X w' [] []):=by
 refine enter Tryz.func117 rfl Tryz.ntmps117 rfl λ a ad=>?_;rw[I.K6]at h;refine p7 [] [] ad λ a ad=>wp_seq_k λ K s=>p7 [] [(7,.i (s_.length:Int)),(8,.i 0)] ad λ a ad=>?_;obtain⟨i,h,j⟩:=I.aGK h;refine MI (λ a w=>Fr ⟨19,[]⟩ [] a/\bs W M0 X w [] [ch jn d g s_]/\i=(.go ())) (λ K t=>?_) ?_
 ·refine SM (λ(q:Nat) a w=>∃(b:Int),Fr ⟨19,[]⟩ [(0,.q d g s_),(1,cj f),(7,.i (s_.length:Int)),(8,.i b)] a/\bs W M0 X w [] [ch jn d g s_]/\I.AO s_ f q b=some i) F ⟨0,ad.cut,c,h⟩ ?_ ?_
  ·rintro a w ⟨b,ad,c,h⟩;exact absurd h (by simp[I.AO])
  rintro q a w ⟨b,ad,c,h⟩ K u;rw[I.AO]at h;refine p7 [] [(9,.bool (decide (b<(s_.length:Int))))] ad λ a ad=>wp_seq_k λ K v=>MK (ad.g rfl) h (λ k h=>?_) (λ k h=>?_)
  ·refine wp_skip<|v _ _<|wp_seq_k λ K x=>wp_block<|p7 [] [(5,.i b)] ad λ a ad=>wp_seq_k λ K y=>oU<|k5 3 [] [(11,cj f),(12,.q d g s_),(13,.i b)] ad λ a ad=>?_;obtain⟨z,l,h⟩:=I.fM h;obtain⟨m,n,_,rfl,o⟩:=D7 _ (c.d 0 rfl) l;refine fH wn (pN Tryz.underlying120 Tryz.sizeOf9 rfl (ad.g rfl) (ad.g rfl) m n) ad rfl rfl λ a ad=>tw 2 [0,0] [(16,.bool (decide (f=z)))] [dm d,fG d+(b).toNat*1] (gZ o gB) ad λ a ad=>wpList_nil (y _ _ ?_);refine MK (ad.g rfl) h (λ p h=>?_) (λ p h=>?_)
   ·refine K7 [] [(4,.i b)] ad λ a ad=>wp_ret ?_;obtain rfl:=oi h;obtain rfl:=oi j;refine anA (Rr (Rr (anA (Rr (Rr ?_)))));refine Ax Tryz.results117 ad rfl ?_;exact⟨rfl,c.uK [] []⟩
   refine wp_skip<|x _ _<|ady [] [(8,.i (I.ar (b+1)))] ad λ a ad=>?_;exact u _ _ ⟨I.ar (b+1),ad.cut,c,h⟩
  refine wp_exit<|sY (sY (HE ?_));exact t _ _ ⟨ad.cut,c,(os h)⟩
 rintro a w ⟨ad,c,aA⟩;subst i;have h:=j;clear j;dsimp only[I.adh]at h;refine s _ _<|K7 [] [(4,.i (-1))] ad λ a ad=>wp_ret ?_;obtain rfl:=oi h;refine Ax Tryz.results117 ad rfl ?_;exact⟨rfl,c.uK [] []⟩
theorem as0{W:World}{X:List Nat}{F:Nat}{i:I.bp}{dg:Int}{r:(List (List UInt8))×(List I.Target)}{q:Nat}{s:iC}{v:Nat}{z:Nat}{B:iC}{C:Nat}{M0:List Nat}(d:bs W M0 X W [] [bA.i_ q [.q s v i.l,.map (some z),.q B C i.dl],ch I.kn s v i.l,bA.map mQ (Value.int .i64) z i.bV,ch (e9 .i64) B C i.dl])(h:I.DF F i dg=some r) :
 Calls Tryz.prog 82 [.c0 q,.i dg].toArray W (λ e w'=>∃ab4:Option Addr,∃acY:Nat,∃anF:List Value,∃ab5:Option Addr,∃acZ:Nat,∃anG:List Value,e= .returned (.tuple #[.q ab4 acY r.1,.q ab5 acZ r.2])/\bs W M0 X w' [a7.row 9 1 (.q ab4 acY r.1) r.1 anF,a7.row 166 2 (.q ab5 acZ r.2) r.2 anG] [bA.rows jn anF r.1,bA.rows I.ko anG r.2]):=by
 refine ad_ Tryz.func82 rfl Tryz.ntmps82 rfl λ a ad=>?_;rw[I.DF]at h;refine wp_seq_k λ K wo=>oU<|Ak (cs:=[.c0 q]) wn (RA rfl rfl (ad.g rfl)) ad d rfl rfl λ a S w _ ad d=>k5 2 [] [] ad λ a ad=>wpList_nil (wo _ _ ?_);refine wp_seq_k λ K rR=>oU<|Ak (cs:=[.slice none 0 0]) wn (Br Tryz.zeroValue120 rfl rfl) ad d rfl rfl λ a p w _ ad d=>wpList_nil<|rR _ _<|wp_seq_k λ K mI=>oU<|Ak (cs:=[.slice none 0 0]) wn (Br Tryz.zeroValue121 rfl rfl) ad d rfl rfl λ a kB w _ ad d=>wpList_nil ?_
 refine mI _ _<|wp_seq_k λ K wq=>wp_seq_k λ K rS=>oU<|tw 2 [0,0] [(14,.c0 q),(15,.i dg)] [S,0] (gZ (k4 (d.e 2 rfl)) gB) ad λ a ad=>?_;obtain⟨D,ayv,h⟩:=I.fM h;have hc:=d;refine KT (vs:=[.c0 q,.i dg]) wn rfl Tryz.call114 ⟨(ad.g rfl),(ad.g rfl),trivial⟩ (ac7 ((hc.into 0).pick ⟨⟨0,rfl⟩,⟨1,rfl⟩,⟨2,rfl⟩,⟨3,rfl⟩,trivial⟩) ayv) ad rfl rfl ?_;rintro _ w ⟨E,G,aMM,rfl,Q⟩;refine⟨_,rfl,λ a ad=>?_⟩;have d:=hc.back 0 Q;clear Q hc;obtain⟨hU,ayx,h⟩:=I.fM h;have hc:=d
 have ai:=hc.freeze 0 0 rfl rfl;refine KT (vs:=[.q E G D]) wn rfl Tryz.call116 ⟨(ad.g rfl),trivial⟩ (ac8 ((ai.into 0).pick ⟨⟨0,rfl⟩,trivial⟩) ayx) ad rfl rfl ?_;rintro _ w ⟨FN,rfl,Q⟩;refine⟨_,rfl,λ a ad=>?_⟩;have g:bj [] _ w:=Q.bS;have d:=hc.gf 0 (by exact trivial) Q;clear Q hc ai;clear g;refine wpList_nil ?_;have ad:=ad.cut (l':=[(2,.c0 S),(6,.c0 p),(7,.c0 kB),(17,.func (.func 144) #[] #[.c0 FN])]);refine rS _ _<|wp_block ?_;have d:=d.freeze 1 0 rfl rfl
 have d:=d.afg 0 rfl;have d:=d.Kg (α:=I.Target) 166 2;have d:=d.more (y:=bA.rows I.ko [] []) rfl;have d:=d.Kg (α:=List UInt8) 9 1;have d:=d.more (y:=bA.rows jn [] []) rfl;obtain⟨azF,VB,h⟩:=I.fM h
 refine ac4 (c:=G) (A:=E) (β:=(Option Addr)×(Nat)×(List (List UInt8))×(List Value)×(Option Addr)×(Nat)×(List I.Target)×(List Value)) (l1:=λ _ l=>[(2,.c0 S),(6,.c0 p),(7,.c0 kB),(9,.i l)]) (λ((U,V,J,Bp,Y,Z,M,Bq):(Option Addr)×(Nat)×(List (List UInt8))×(List Value)×(Option Addr)×(Nat)×(List I.Target)×(List Value))=>[a7.row 9 1 (.q U V J) J Bp,a7.row 166 2 (.q Y Z M) M Bq,a7.b' kB 121 [.q Y Z M],a7.b' p 120 [.q U V J],a7.b' S 113 [.c0 q]]) (λ((U,V,J,Bp,Y,Z,M,Bq):(Option Addr)×(Nat)×(List (List UInt8))×(List Value)×(Option Addr)×(Nat)×(List I.Target)×(List Value))=>[bA.rows jn Bp J,bA.rows I.ko Bq M,bA.i_ FN [.q E G D],ch (e9 .i64) E G D,bA.i_ q [.q s v i.l,.map (some z),.q B C i.dl],ch I.kn s v i.l,bA.map mQ (Value.int .i64) z i.bV,ch (e9 .i64) B C i.dl]) (λ(P1:EZ)((U,V,J,Bp,Y,Z,M,Bq):(Option Addr)×(Nat)×(List (List UInt8))×(List Value)×(Option Addr)×(Nat)×(List I.Target)×(List Value))=>I.zQ F i P1 J M=some azF) D (none,0,[],[],none,0,[],[]) 2 3 ac5 Tryz.call144 ad rfl rfl rfl (d.hS [0,0,2,3,5,6,7,8]) VB (λ b=>by obtain⟨_,_,_,_,_,_,_,_⟩:=b;rfl) (λ b=>by obtain⟨_,_,_,_,_,_,_,_⟩:=b;rfl) ?_ ?_ ?_
 ·clear h VB d ad;intro L azd l w a K ad b1;refine pA (by kernel_rfl)<|k5 1 [] [(9,.i l)] ad λ a ad=>wpList_nil ?_;exact b1 _ ad.cut
 ·clear h VB d ad;intro L g1 gO g2 cZ b azd l P1 w a K h ad d b1;obtain⟨U,V,J,Bp,Y,Z,M,Bq⟩:=b;dsimp only at h d;rw[I.zQ]at h;obtain⟨ag0,h,Vy⟩:=I.fM h
  refine aae (λ a w=>∃(L5:iC)(MB:Nat)(xd:List (List UInt8))(Ru:oM)(L6:iC)(MC:Nat)(xf:List I.Target)(Rv:oM),Fr ⟨59,[]⟩ [] a/\bs W M0 X w [a7.obj g1 gO,a7.obj g2 cZ,a7.row 9 1 (.q L5 MB xd) xd Ru,a7.row 166 2 (.q L6 MC xf) xf Rv,a7.b' kB 121 [.q L6 MC xf],a7.b' p 120 [.q L5 MB xd],a7.b' S 113 [.c0 q]] [bA.rows jn Ru xd,bA.rows I.ko Rv xf,bA.i_ FN [.q E G D],ch (e9 .i64) E G D,bA.i_ q [.q s v i.l,.map (some z),.q B C i.dl],ch I.kn s v i.l,bA.map mQ (Value.int .i64) z i.bV,ch (e9 .i64) B C i.dl]/\ag0=(xd,xf)) (λ K IX=>?_) ?_
  ·clear Vy;refine nc λ K IY=>pA (by kernel_rfl)<|tw 5 [0,0,1,0] [(23,.q s v i.l),(24,.i l)] [q,0,S,0] (gZ (k4 (d.e 6 rfl)) (gZ (d.d 4 rfl).2.2 gB)) ad λ a ad=>?_;obtain⟨o,ay8,h⟩:=I.fM h;obtain⟨awq,axM,_,⟨L7,MD,t,H,rfl,axm,axn⟩,axb⟩:=D7 _ (d.d 5 rfl) ay8;have d:=d.more (y:=ch I.jo L7 MD o.Fields) axm;have d:=d.more (y:=ch I.qQ t H o.bf) axn;refine fH wn (pN Tryz.underlying25 Tryz.sizeOf134 rfl (ad.g rfl) (ad.g rfl) awq axM) ad rfl rfl λ a ad=>?_
   refine tw 4 [0,3] [(27,.q t H o.bf),(28,.i (o.bf.length:Int)),(29,.i 0)] [dm s,fG s+(l).toNat*4+3] (gZ axb gB) ad λ a ad=>wpList_nil (IY _ _ ?_);obtain⟨Wv,h,Vz⟩:=I.fM h
   refine aae (λ a w=>∃(L8:iC)(ME:Nat)(xg:List (List UInt8))(Rw:oM)(L9:iC)(MF:Nat)(xh:List I.Target)(Rx:oM),Fr ⟨59,[]⟩ [] a/\bs W M0 X w [a7.obj g1 gO,a7.obj g2 cZ,a7.row 9 1 (.q L8 ME xg) xg Rw,a7.row 166 2 (.q L9 MF xh) xh Rx,a7.b' kB 121 [.q L9 MF xh],a7.b' p 120 [.q L8 ME xg],a7.b' S 113 [.c0 q]] [bA.rows jn Rw xg,bA.rows I.ko Rx xh,ch I.qQ t H o.bf,ch I.jo L7 MD o.Fields,bA.i_ FN [.q E G D],ch (e9 .i64) E G D,bA.i_ q [.q s v i.l,.map (some z),.q B C i.dl],ch I.kn s v i.l,bA.map mQ (Value.int .i64) z i.bV,ch (e9 .i64) B C i.dl]/\Wv=(xg,xh)) (λ K IZ=>?_) ?_
   ·clear Vz
    refine alp (λ(et:Nat) a w=>∃(N:iC)(O:Nat)(u:List (List UInt8))(HG:oM)(yr:iC)(y2:Nat)(R:List I.Target)(LV:oM)(j:Int),Fr ⟨59,[]⟩ [(6,.c0 p),(7,.c0 kB),(9,.i l),(27,.q t H o.bf),(28,.i (o.bf.length:Int)),(29,.i j)] a/\bs W M0 X w [a7.obj g1 gO,a7.obj g2 cZ,a7.row 9 1 (.q N O u) u HG,a7.row 166 2 (.q yr y2 R) R LV,a7.b' kB 121 [.q yr y2 R],a7.b' p 120 [.q N O u],a7.b' S 113 [.c0 q]] [bA.rows jn HG u,bA.rows I.ko LV R,ch I.qQ t H o.bf,ch I.jo L7 MD o.Fields,bA.i_ FN [.q E G D],ch (e9 .i64) E G D,bA.i_ q [.q s v i.l,.map (some z),.q B C i.dl],ch I.kn s v i.l,bA.map mQ (Value.int .i64) z i.bV,ch (e9 .i64) B C i.dl]/\I.zR F l o et u R j=some Wv) F ⟨U,V,J,Bp,Y,Z,M,Bq,0,ad.cut,d.hS [2,3,0,1,4,5,6,7,8,9],h⟩ ?_ ?_
    ·rintro a w ⟨N,O,u,HG,yr,y2,R,LV,j,ad,d,h⟩;exact absurd h (by simp[I.zR])
    rintro et a w ⟨N,O,u,HG,yr,y2,R,LV,j,ad,d,h⟩ K U3;rw[I.zR]at h;refine nc λ K IW=>pA (by kernel_rfl)<|k5 1 [] [(30,.bool (decide (j<(o.bf.length:Int))))] ad λ a ad=>wpList_nil (IW _ _ ?_);refine nc λ K awA=>aaf (ad.g rfl) (λ U'=>?_) (λ U'=>?_)
    ·have h:=I.SX U' h;refine QH<|awA _ _<|nc λ K awB=>?_;obtain⟨ag1,h,VA⟩:=I.fM h
     refine aae (λ a w=>∃(L_:iC)(MG:Nat)(xi:List (List UInt8))(Ry:oM)(Ma:iC)(MH:Nat)(xj:List I.Target)(Rz:oM),Fr ⟨59,[]⟩ [(6,.c0 p),(7,.c0 kB),(9,.i l),(27,.q t H o.bf),(28,.i (o.bf.length:Int)),(29,.i j)] a/\bs W M0 X w [a7.obj g1 gO,a7.obj g2 cZ,a7.row 9 1 (.q L_ MG xi) xi Ry,a7.row 166 2 (.q Ma MH xj) xj Rz,a7.b' kB 121 [.q Ma MH xj],a7.b' p 120 [.q L_ MG xi],a7.b' S 113 [.c0 q]] [bA.rows jn Ry xi,bA.rows I.ko Rz xj,ch I.qQ t H o.bf,ch I.jo L7 MD o.Fields,bA.i_ FN [.q E G D],ch (e9 .i64) E G D,bA.i_ q [.q s v i.l,.map (some z),.q B C i.dl],ch I.kn s v i.l,bA.map mQ (Value.int .i64) z i.bV,ch (e9 .i64) B C i.dl]/\ag1=(xi,xj)) (λ K NH=>?_) ?_
     ·clear VA;refine nc λ K awC=>pA (by kernel_rfl)<|k5 1 [] [(31,.i j)] ad λ a ad=>?_;obtain⟨n,ay9,h⟩:=I.fM h;obtain⟨aws,axO,_,⟨RQ,SJ,RR,SK,rfl,axo,axp⟩,axd⟩:=D7 _ (d.d 2 rfl) ay9;have d:=d.more (y:=ch I.Ea RQ SJ n.cr) axo;have d:=d.more (y:=ch I.D' RR SK n.cy) axp;refine fH wn (pN Tryz.underlying132 Tryz.sizeOf131 rfl (ad.g rfl) (ad.g rfl) aws axO) ad rfl rfl λ a ad=>?_
      refine tw 1 [0,0] [(33,.agg #[cj n.Name,.bool n.Static,.q RQ SJ n.cr,.i n.Returns.Kind,cj n.Returns.ak,.i n.hJ,.i n.hG,cj n.Code,.q RR SK n.cy])] [dm t,fG t+(j).toNat*9] (gZ axd gB) ad λ a ad=>Ak (cs:=[cj [],.bool false,.slice none 0 0,.i 0,cj [],.i 0,.i 0,cj [],.slice none 0 0]) wn (Br Tryz.zeroValue131 rfl rfl) ad d rfl rfl λ a T3 w _ ad d=>k5 1 [] [(10,.i j)] ad λ a ad=>?_
      refine xQ (vs:=[cj n.Name,.bool n.Static,.q RQ SJ n.cr,.i n.Returns.Kind,cj n.Returns.ak,.i n.hJ,.i n.hG,cj n.Code,.q RR SK n.cy]) 0 d rfl wn rfl Tryz.sizeOf131 rfl rfl rfl rfl (ad.g rfl) (ad.g rfl) rfl λ w d=>wpList_nil<|awC _ _<|nc λ K awD=>pA (by kernel_rfl)<|k5 2 [] [(34,.i l),(35,.i j)] ad λ a ad=>?_
      refine fH wn (aKT (vs:=[(0,.i l),(1,.i j)]) (cs:=[.i l,.i j]) Tryz.zeroValue166 Tryz.underlying166 aDr rfl ⟨⟨(ad.g rfl),rfl⟩,⟨(ad.g rfl),rfl⟩,trivial⟩ (by kernel_rfl)) ad rfl rfl λ a ad=>Ak (cs:=[.i 0,.i 0]) wn (Br Tryz.zeroValue166 rfl rfl) ad d rfl rfl λ a T4 w _ ad d=>xQ (vs:=[.i l,.i j]) 0 d rfl wn rfl Tryz.sizeOf166 rfl rfl rfl rfl (ad.g rfl) (ad.g rfl) rfl λ w d=>wpList_nil ?_
      have ad:=ad.cut (l':=[(6,.c0 p),(7,.c0 kB),(9,.i l),(11,.c0 T3),(12,.c0 T4),(27,.q t H o.bf),(28,.i (o.bf.length:Int)),(29,.i j)]);refine awD _ _<|nc λ K awE=>nc λ K awF=>pA (by kernel_rfl)<|tw 3 [0,0,1,0] [(37,.q N O u),(39,cj n.Name)] [T3,0,p,0] (gZ (k4 (d.e 7 rfl)) (gZ (k4 (d.e 1 rfl)) gB)) ad λ a ad=>?_;obtain⟨D5,ayy,h⟩:=I.fM h;have hc:=d;have ai:=hc.freeze 4 2 rfl rfl
      refine KT (vs:=[.q N O u,cj n.Name]) wn rfl Tryz.call117 ⟨(ad.g rfl),(ad.g rfl),trivial⟩ (as3 ((ai.into 0).pick ⟨⟨0,rfl⟩,trivial⟩) ayy) ad rfl rfl ?_;rintro _ w ⟨rfl,Q⟩;refine⟨_,rfl,λ a ad=>?_⟩;have g:bj [] _ w:=Q.bS;have d:=hc.gf 0 (by exact trivial) Q;clear Q hc ai;clear g;refine k5 1 [] [(13,.i D5)] ad λ a ad=>wpList_nil (awF _ _ ?_);refine nc λ K awG=>pA (by kernel_rfl)<|k5 2 [] [(42,.bool (decide (0<=D5)))] ad λ a ad=>wpList_nil (awG _ _ ?_);refine aaf (ad.g rfl) (λ Va=>?_) (λ Va=>?_)
      ·have h:=I.SX Va h;refine nc λ K awH=>pA (by kernel_rfl)<|tw 3 [0,0,1,0] [(43,.q yr y2 R),(44,.i D5),(45,.agg #[.i l,.i j])] [T4,0,kB,0] (gZ (k4 (d.e 6 rfl)) (gZ (k4 (d.e 0 rfl)) gB)) ad λ a ad=>?_;obtain⟨abo,agH,h⟩:=I.fM h;obtain⟨awt,axP,_,rfl,axe⟩:=aGc (d.e 5 rfl) (d.d 3 rfl) agH;refine fH wn (pN Tryz.underlying121 Tryz.sizeOf166 rfl (ad.g rfl) (ad.g rfl) awt axP) ad rfl rfl λ a ad=>?_;obtain⟨WO,axZ,h⟩:=I.fM h
       refine aGW (T:=I.ko) (d':=(⟨l,j⟩:I.Target)) (vs:=[.i l,.i j]) (cs0:=[.i abo.ak,.i abo.Method]) (kk:=0) 5 3 axZ d rfl rfl agH rfl axe wn rfl Tryz.sizeOf166 rfl rfl rfl rfl rfl (ad.g rfl) (ad.g rfl) rfl λ aKL w P g d=>?_;try unfold Value.q at d;try unfold Value.q at ad;rw[P]at d;try rw[P]at ad;clear P;clear g;refine wpList_nil ?_;have ad:=ad.cut (l':=[(6,.c0 p),(7,.c0 kB),(9,.i l),(27,.q t H o.bf),(28,.i (o.bf.length:Int)),(29,.i j)]);refine awH _ _<|aag<|sY (HE ?_)
       exact NH _ _ ⟨N,O,u,HG,yr,y2,WO,aKL,ad.cut,d.uK [2,3,4,5,6,7,8] [3,0,5,6,7,8,9,10,11,12],(os h)⟩
      have h:=I.SV Va h;refine QH<|awE _ _<|alo (m:=11) 8 (bj (Value.q N O u).ownBlock.toList) (by kernel_rfl) rfl (by kernel_rfl) λ w g=>?_;have d:=d.eQ g;clear g;have k:=d;have f:=bj.refl (Value.q N O u).ownBlock.toList w
      refine dW [0,1,2,5,6] 5 [0,0,1,0,2,0,3,0] [(47,.q N O u),(49,cj n.Name),(52,.q yr y2 R),(53,.agg #[.i l,.i j])] [T4,0,kB,0,T3,0,p,0] (λ dA g=>(gZ (Na g (k.Po 7 4 rfl rfl (by decide)) (Il (k.e 7 rfl)) (k4 (k.e 7 rfl))) (gZ (Na g (k.Po 1 4 rfl rfl (by decide)) (Il (k.e 1 rfl)) (k4 (k.e 1 rfl))) (gZ (Na g (k.Po 6 4 rfl rfl (by decide)) (Il (k.e 6 rfl)) (k4 (k.e 6 rfl))) (gZ (Na g (k.Po 0 4 rfl rfl (by decide)) (Il (k.e 0 rfl)) (k4 (k.e 0 rfl))) gB))))) ad f λ a ad=>acz 3 7 rfl rfl (by kernel_rfl) (λ _=>f) ?_ ?_
      ·refine Kh (cs:=[cj n.Name]) wn (EP (vs:=[(0,cj n.Name)]) Tryz.underlying120 Tryz.sizeOf9 Tryz.zeroValue9 rfl rfl rfl ⟨⟨(ad.g rfl),rfl⟩,trivial⟩ (by kernel_rfl)) ad d rfl rfl λ a awb w g I9 ad d=>?_;have I9:=gm f.size I9;have f:=f.trans g (by simp);clear g;refine ka<|acz 4 7 rfl rfl (by kernel_rfl) (λ _=>f) ?_ ?_
       ·obtain⟨OE,ax0,h⟩:=I.fM h;refine Zz (T:=jn) (ml:=[n.Name]) 5 0 2 d rfl rfl rfl Tryz.underlying120 Wh rfl rfl ax0 rfl rfl ⟨_,_,rfl,rfl,rfl⟩ wn rfl (ad.g rfl) (ad.g rfl) ad rfl rfl λ a ab3 acX aKM w g ad d=>?_;have f:=f.trans g (λ x aa=>.inl aa);clear g;refine ka<|mB 7 rfl (by kernel_rfl) (λ _=>f)<|Kh (cs:=[.i l,.i j]) wn (EP (vs:=[(0,.agg #[.i l,.i j])]) Tryz.underlying121 Tryz.sizeOf166 Tryz.zeroValue166 rfl rfl rfl ⟨⟨(ad.g rfl),rfl⟩,trivial⟩ (by kernel_rfl)) ad d rfl rfl λ a aLQ w g af' ad d=>?_;have af':=gm f.size af';have f:=f.trans g (by simp);clear g;refine ka ?_
        refine mB 8 rfl (by kernel_rfl) (λ _=>f) ?_;obtain⟨ua,Jn,h⟩:=I.fM h;refine KS (T:=I.ko) (ml:=[(⟨l,j⟩:I.Target)]) 6 0 4 d rfl rfl rfl Tryz.underlying121 Wg rfl rfl Jn rfl rfl ⟨_,_,rfl,rfl,rfl⟩ wn rfl (ad.g rfl) (ad.g rfl) ad rfl rfl λ a yu y3 LW w ad d=>ka ?_;clear k f;have k:=d;have f:=bj.refl [] w;refine fi.next 9 (bj [] w) (by kernel_rfl)<|mB 9 rfl (by kernel_rfl) (λ _=>f)<|xQ (vs:=[.q ab3 acX OE]) 7 d rfl wn rfl Tryz.sizeOf120 rfl rfl rfl rfl (ad.g rfl) (ad.g rfl) rfl λ w d=>ka ?_;clear k f;have k:=d
        have f:=bj.refl [] w;refine fi.next 10 (bj [] w) (by kernel_rfl)<|mB 10 rfl (by kernel_rfl) (λ _=>f)<|xQ (vs:=[.q yu y3 ua]) 6 d rfl wn rfl Tryz.sizeOf121 rfl rfl rfl rfl (ad.g rfl) (ad.g rfl) rfl λ w d=>ka ?_;clear k f;have k:=d;have f:=bj.refl [] w;refine fi.next 11 (bj [] w) (by kernel_rfl)<|Mr (by kernel_rfl) ?_ (λ _=>f);clear k f;have ad:=ad.cut (l':=[(6,.c0 p),(7,.c0 kB),(9,.i l),(27,.q t H o.bf),(28,.i (o.bf.length:Int)),(29,.i j)])
        exact NH _ _ ⟨ab3,acX,OE,aKM,yu,y3,ua,LW,ad.cut,d.uK [2,3,4,5,6,7,8] [1,0,6,7,8,9,10,11,12,13],(os h)⟩
       refine Kh (cs:=[.i l,.i j]) wn (EP (vs:=[(0,.agg #[.i l,.i j])]) Tryz.underlying121 Tryz.sizeOf166 Tryz.zeroValue166 rfl rfl rfl ⟨⟨(ad.g rfl),rfl⟩,trivial⟩ (by kernel_rfl)) ad d rfl rfl λ a awc w g I_ ad d=>?_;have I_:=gm f.size I_;have f:=f.trans g (by simp);clear g;refine ka<|mB 4 rfl (by kernel_rfl) (λ _=>f) ?_;obtain⟨JX,VH,h⟩:=I.fM h;refine Zz (T:=jn) (ml:=[n.Name]) 6 1 2 d rfl rfl rfl Tryz.underlying120 Wh rfl rfl VH rfl rfl ⟨_,_,rfl,rfl,rfl⟩ wn rfl (ad.g rfl) (ad.g rfl) ad rfl rfl λ a HO Ip abF w g ad d=>?_;have f:=f.trans g (λ x aa=>.inl aa);clear g;refine ka ?_
       refine mB 8 rfl (by kernel_rfl) (λ _=>f) ?_;obtain⟨ua,Jn,h⟩:=I.fM h;refine KS (T:=I.ko) (ml:=[(⟨l,j⟩:I.Target)]) 6 0 4 d rfl rfl rfl Tryz.underlying121 Wg rfl rfl Jn rfl rfl ⟨_,_,rfl,rfl,rfl⟩ wn rfl (ad.g rfl) (ad.g rfl) ad rfl rfl λ a yu y3 LW w ad d=>ka ?_;clear k f;have k:=d;have f:=bj.refl [] w;refine fi.next 9 (bj [] w) (by kernel_rfl)<|mB 9 rfl (by kernel_rfl) (λ _=>f)<|xQ (vs:=[.q HO Ip JX]) 7 d rfl wn rfl Tryz.sizeOf120 rfl rfl rfl rfl (ad.g rfl) (ad.g rfl) rfl λ w d=>ka ?_;clear k f;have k:=d
       have f:=bj.refl [] w;refine fi.next 10 (bj [] w) (by kernel_rfl)<|mB 10 rfl (by kernel_rfl) (λ _=>f)<|xQ (vs:=[.q yu y3 ua]) 6 d rfl wn rfl Tryz.sizeOf121 rfl rfl rfl rfl (ad.g rfl) (ad.g rfl) rfl λ w d=>ka ?_;clear k f;have k:=d;have f:=bj.refl [] w;refine fi.next 11 (bj [] w) (by kernel_rfl)<|Mr (by kernel_rfl) ?_ (λ _=>f);clear k f;have ad:=ad.cut (l':=[(6,.c0 p),(7,.c0 kB),(9,.i l),(27,.q t H o.bf),(28,.i (o.bf.length:Int)),(29,.i j)])
       exact NH _ _ ⟨HO,Ip,JX,abF,yu,y3,ua,LW,ad.cut,d.uK [2,3,4,5,6,7,8] [1,0,6,7,8,9,10,11,12,13],(os h)⟩
      refine Kh (cs:=[.i l,.i j]) wn (EP (vs:=[(0,.agg #[.i l,.i j])]) Tryz.underlying121 Tryz.sizeOf166 Tryz.zeroValue166 rfl rfl rfl ⟨⟨(ad.g rfl),rfl⟩,trivial⟩ (by kernel_rfl)) ad d rfl rfl λ a awb w g I9 ad d=>?_;have I9:=gm f.size I9;have f:=f.trans g (by simp);clear g;refine ka<|mB 3 rfl (by kernel_rfl) (λ _=>f)<|Kh (cs:=[cj n.Name]) wn (EP (vs:=[(0,cj n.Name)]) Tryz.underlying120 Tryz.sizeOf9 Tryz.zeroValue9 rfl rfl rfl ⟨⟨(ad.g rfl),rfl⟩,trivial⟩ (by kernel_rfl)) ad d rfl rfl λ a awc w g I_ ad d=>?_;have I_:=gm f.size I_;have f:=f.trans g (by simp);clear g;refine ka ?_
      refine mB 4 rfl (by kernel_rfl) (λ _=>f) ?_;obtain⟨JX,VH,h⟩:=I.fM h;refine Zz (T:=jn) (ml:=[n.Name]) 6 0 2 d rfl rfl rfl Tryz.underlying120 Wh rfl rfl VH rfl rfl ⟨_,_,rfl,rfl,rfl⟩ wn rfl (ad.g rfl) (ad.g rfl) ad rfl rfl λ a HO Ip abF w g ad d=>?_;have f:=f.trans g (λ x aa=>.inl aa);clear g;refine ka<|mB 8 rfl (by kernel_rfl) (λ _=>f) ?_;obtain⟨ua,Jn,h⟩:=I.fM h;refine KS (T:=I.ko) (ml:=[(⟨l,j⟩:I.Target)]) 6 0 4 d rfl rfl rfl Tryz.underlying121 Wg rfl rfl Jn rfl rfl ⟨_,_,rfl,rfl,rfl⟩ wn rfl (ad.g rfl) (ad.g rfl) ad rfl rfl λ a yu y3 LW w ad d=>ka ?_
      clear k f;have k:=d;have f:=bj.refl [] w;refine fi.next 9 (bj [] w) (by kernel_rfl)<|mB 9 rfl (by kernel_rfl) (λ _=>f)<|xQ (vs:=[.q HO Ip JX]) 7 d rfl wn rfl Tryz.sizeOf120 rfl rfl rfl rfl (ad.g rfl) (ad.g rfl) rfl λ w d=>ka ?_;clear k f;have k:=d;have f:=bj.refl [] w;refine fi.next 10 (bj [] w) (by kernel_rfl)<|mB 10 rfl (by kernel_rfl) (λ _=>f)<|xQ (vs:=[.q yu y3 ua]) 6 d rfl wn rfl Tryz.sizeOf121 rfl rfl rfl rfl (ad.g rfl) (ad.g rfl) rfl λ w d=>ka ?_;clear k f
      have k:=d;have f:=bj.refl [] w;refine fi.next 11 (bj [] w) (by kernel_rfl)<|Mr (by kernel_rfl) ?_ (λ _=>f);clear k f;have ad:=ad.cut (l':=[(6,.c0 p),(7,.c0 kB),(9,.i l),(27,.q t H o.bf),(28,.i (o.bf.length:Int)),(29,.i j)]);exact NH _ _ ⟨HO,Ip,JX,abF,yu,y3,ua,LW,ad.cut,d.uK [2,3,4,5,6,7,8] [1,0,6,7,8,9,10,11,12,13],(os h)⟩
     rintro a w ⟨L_,MG,xi,Ry,Ma,MH,xj,Rz,ad,d,aA⟩;subst ag1;have h:=VA;clear VA;dsimp only at h;refine awB _ _<|pA (by kernel_rfl)<|k5 2 [] [(29,.i (I.ar (j+1)))] ad λ a ad=>wpList_nil ?_;exact U3 _ _ ⟨L_,MG,xi,Ry,Ma,MH,xj,Rz,I.ar (j+1),ad.cut,d,h⟩
    have h:=I.SV U' h;refine aag<|sY (sY (HE ?_));exact IZ _ _ ⟨N,O,u,HG,yr,y2,R,LV,ad.cut,d,(os h)⟩
   rintro a w ⟨L8,ME,xg,Rw,L9,MF,xh,Rx,ad,d,aA⟩;subst Wv;have h:=Vz;clear Vz;dsimp only at h;exact IX _ _ ⟨L8,ME,xg,Rw,L9,MF,xh,Rx,ad.cut,d.hS [0,1,4,5,6,7,8,9],(os h)⟩
  rintro a w ⟨L5,MB,xd,Ru,L6,MC,xf,Rv,ad,d,aA⟩;subst ag0;have h:=Vy;clear Vy;dsimp only at h;exact b1 (L5,MB,xd,Ru,L6,MC,xf,Rv) _ _ h (d)
 clear d ad;intro aLR b a w VC ad d;obtain⟨U,V,J,Bp,Y,Z,M,Bq⟩:=b;dsimp only at VC d;rw[I.zQ]at VC;obtain rfl:=oi VC;have ad:=ad.cut (l':=[(6,.c0 p),(7,.c0 kB)]);dsimp only at h;refine wq _ _<|wp_seq_k λ K awI=>as2 (by kernel_rfl) (by kernel_rfl)<|aD0 4 [0,0,1,0] [(4,.q U V J),(5,.q Y Z M)] [kB,0,p,0] (λ dA g=>(gZ (FI g (k4 (d.e 4 rfl))) (gZ (FI g (k4 (d.e 3 rfl))) gB))) ad λ a ad=>wpQuiet_nil λ w g=>?_;have d:=d.eQ g;clear g;refine awI _ _<|wp_ret ?_
 obtain rfl:=oi h;refine aBU 0 Tryz.results82 ad d rfl rfl rfl λ w d=>?_;exact⟨U,V,Bp,Y,Z,Bq,rfl,d.uK [1,2] [0,1]⟩
end Go.Proofs.YteeliipnilghaaaGreat
namespace Go.Proofs.YteeliipnilghaaaGreat
open Go Go.RowKit aq I a8
section
variable{F:Nat->Prop}{w:World}
theorem asA{cs:List Value}{d:I.Kind}(h:(bk.ty 128).rd F w cs d):I.Ea.rd F w cs d:=by
 change eZ (λ t=>(fD M6 t).ty) F w [.i .i64,.s] cs (d.Kind,d.ak,())at h;obtain⟨_,_,rfl,rfl,_,_,rfl,rfl,rfl⟩:=h;rfl
theorem asz{cs:List Value}{d:I.Handler}(h:(bk.ty 157).rd F w cs d):I.D'.rd F w cs d:=by
 change eZ (λ t=>(fD M4 t).ty) F w [.i .i64,.i .i64,.i .i64,.s] cs (d.From,d.To,d.At,d.ak,())at h;obtain⟨_,_,rfl,rfl,_,_,rfl,rfl,_,_,rfl,rfl,_,_,rfl,rfl,rfl⟩:=h;rfl
theorem asy{cs:List Value}{d:I.Field}(h:(bk.ty 136).rd F w cs d):I.jo.rd F w cs d:=by
 change eZ (λ t=>(fD Iz t).ty) F w [.s,.i .i64,.s] cs (d.Name,d.Kind.Kind,d.Kind.ak,())at h;obtain⟨_,_,rfl,rfl,_,_,rfl,rfl,_,_,rfl,rfl,rfl⟩:=h;rfl
theorem asB{cs:List Value}{d:I.Method}(h:(bk.ty 131).rd F w cs d):I.qQ.rd F w cs d:=by
 change eZ (λ t=>(fD M7 t).ty) F w [.s,.b,.l 128,.i .i64,.s,.i .i64,.i .i64,.s,.l 157] cs (d.Name,d.Static,d.cr,d.Returns.Kind,d.Returns.ak,d.hJ,d.hG,d.Code,d.cy,())at h;obtain⟨_,_,rfl,rfl,_,_,rfl,rfl,_,_,rfl,a,_,_,rfl,rfl,_,_,rfl,rfl,_,_,rfl,rfl,_,_,rfl,rfl,_,_,rfl,rfl,_,_,rfl,J,rfl⟩:=h;have a:(bY (bk.ty 128)).rd F w [_] d.cr:=a;have J:(bY (bk.ty 157)).rd F w [_] d.cy:=J;obtain⟨A,c,rfl⟩:=mj _ a;obtain⟨cb,b,rfl⟩:=mj _ J;exact⟨A,c,cb,b,rfl,jl (λ _ _=>asA) a,jl (λ _ _=>asz) J⟩
theorem asx{cs:List Value}{d:I.ak}(h:(bk.ty 134).rd F w cs d):I.kn.rd F w cs d:=by
 change eZ (λ t=>(fD M5 t).ty) F w [.s,.s,.l 136,.l 131] cs (d.Name,d.cR,d.Fields,d.bf,())at h;obtain⟨_,_,rfl,rfl,_,_,rfl,rfl,_,_,rfl,a,_,_,rfl,J,rfl⟩:=h;have a:(bY (bk.ty 136)).rd F w [_] d.Fields:=a;have J:(bY (bk.ty 131)).rd F w [_] d.bf:=J;obtain⟨A,c,rfl⟩:=mj _ a;obtain⟨cb,b,rfl⟩:=mj _ J;exact⟨A,c,cb,b,rfl,jl (λ _ _=>asy) a,jl (λ _ _=>asB) J⟩
theorem acT{cs:List Value}{d:Int}(h:(bk.ty 3).rd F w cs d):cs=[.int .i64 d]:=by
 change eZ (λ t=>(fD FF t).ty) F w [.i .i64] cs (d,())at h;obtain⟨_,_,rfl,rfl,rfl⟩:=h;rfl
theorem aFl{F':Nat->Prop}{cs:List Value}{d:I.Field}(h:I.jo.rd F w cs d):(bk.ty 136).rd F' w cs d:=by
 change cs=_ at h;subst h;change eZ (λ t=>(fD Iz t).ty) F' w [.s,.i .i64,.s] _ (d.Name,d.Kind.Kind,d.Kind.ak,());exact⟨_,_,rfl,rfl,_,_,rfl,rfl,_,_,rfl,rfl,rfl⟩
theorem aFn{F':Nat->Prop}{cs:List Value}{d:I.Target}(h:I.ko.rd F w cs d):(bk.ty 166).rd F' w cs d:=by
 change cs=_ at h;subst h;change eZ (λ t=>(fD M8 t).ty) F' w [.i .i64,.i .i64] _ (d.ak,d.Method,());exact⟨_,_,rfl,rfl,_,_,rfl,rfl,rfl⟩
theorem aFm{F':Nat->Prop}{cs:List Value}{d:List UInt8}(h:jn.rd F w cs d):(bk.ty 9).rd F' w cs d:=by
 change cs=_ at h;subst h;change eZ (λ t=>(fD M9 t).ty) F' w [.s] _ (d,());exact⟨_,_,rfl,rfl,rfl⟩
theorem auU{es:List MapEntry}{d:List (List UInt8×Int)}(h: @jB bk F w 9 3 JU es d):R' mQ (Value.int .i64) es d:=by
 induction es generalizing d with
 |nil=>cases d with
  |nil=>rfl
  |cons p d=>exact h.elim
 |cons e es a=>cases d with
  |nil=>exact h.elim
  |cons p d=>
   obtain⟨b,⟨xs,J,c⟩,f⟩:=h
   have J:=acT J
   subst J
   have:=a f
   unfold R' at this⊢
   rw[eu,eu,this]
   rw[show e.val= .int .i64 p.2 from c,show e.key=mQ.enc p.1 from b]
abbrev zU(cs:List I.ak)(bV:List (List UInt8×Int))(jm:List Int):List (aC bk.El):=[.c 117 [.s 134 (cs:List (bk.El 134)),.m 1,.s 3 (jm:List (bk.El 3))],.m 9 3 (bV:List (bk.El 9×bk.El 3))]
theorem ahO{W:World}{M0:List Nat}{X:Nat->Prop}{ρ vs:List Value}{cs:List I.ak}{bV:List (List UInt8×Int)}{jm:List Int}{n:Int}
 (d:Mem bk W M0 X (zU cs bV jm) ρ w)(o:a1 bk (bi X (zU cs bV jm) ρ w) w ρ (zU cs bV jm) [.b 0 0,.p (.int .i64 n)] vs) :
 ∃g A c r cb a,vs=[.pointer (some ⟨g,0,none⟩),.int .i64 n]/\bs w [] [] w [] [bA.i_ g [.slice A cs.length c,.map (some r),.slice cb jm.length a],ch I.kn A c cs,bA.map mQ (Value.int .i64) r bV,ch (e9 .i64) cb a jm]:=by
 have H:=d.len
 obtain⟨J,p⟩:=d.r_ (i:=0) rfl
 obtain⟨L,q⟩:=d.r_ (i:=1) rfl
 have b0:=d.ok 0 _ _ rfl p
 have bO:=d.ok 1 _ _ rfl q
 obtain⟨g,us,rfl,s,u⟩:=b0
 obtain⟨r,rfl,K,D,es,cl,v,E,G,af⟩:=bO
 simp only[a1,ao]at u o
 obtain⟨u1,_,rfl,e,u2,_,rfl,⟨M,x,rfl⟩,u3,_,rfl,f,rfl⟩:=u
 obtain⟨_,_,rfl,⟨g',z,rfl⟩,_,_,rfl,rfl,rfl⟩:=o
 rw[p]at z
 rw[q]at x
 cases z
 cases x
 obtain⟨A,c,rfl⟩:=mj _ e
 obtain⟨cb,a,rfl⟩:=mj _ f
 have B:∀k,bi X (zU cs bV jm) ρ w k->ii [] w k/\w.heap[k]? =w.heap[k]? :=λ k j=>⟨⟨by simp,j.2.2⟩,rfl⟩
 have l:(ch I.kn A c cs).ok [] w:=jl (λ _ _=>asx) ((bY (bk.ty 134)).law B e)
 have m:(ch (e9 .i64) cb a jm).ok [] w:=jl (λ _ _=>acT) ((bY (bk.ty 3)).law B f)
 have C:∀k b,w.heap[k]? =some b->k<w.heap.size:=λ k b j=>by
  rcases fN k w.heap.size with h |h
  ·exact h
  ·rw[hA h]at j;cases j
 obtain rfl:JU=K:=dT D
 refine⟨g,A,c,r,cb,a,rfl,bs.start [] [] w [] _ (by simp) (by simp[bT]) (by simp) (by simp[bT]) λ y hy=>?_⟩
 simp only[cm,hR,or_false]at hy
 rcases hy with rfl |rfl |rfl |rfl
 ·exact⟨by simp[bT],C _ _ s,k4 (t:=117) (cs:=[.slice A cs.length c,.map (some r),.slice cb jm.length a]) s⟩
 ·exact l
 ·exact⟨by simp[bT],C _ _ v,es,cl,v,auU E,G,af⟩
 ·exact m
end
theorem atI(F:Nat):(ag' F).hL.Bx aB 83:=by
 intro da db eM h W M0 X ρ w vs a b;obtain⟨⟨⟩,n,⟨⟩⟩:=da;obtain⟨⟨cs,⟨⟩,jm,⟨⟩⟩,bV,⟨⟩⟩:=db;have h:dh _ (I.uf F ⟨cs,bV,jm⟩ n)=some eM:=h;obtain⟨r,d,rfl⟩:=cd.1 h;have a:Mem bk W M0 X (zU cs bV jm) ρ w:=a;obtain⟨g,A,c,q,cb,p,rfl,aj⟩:=ahO a b;refine⟨⟨.ret (.r 2 0),zU cs bV jm++[.r 136 0 0 (r:List (bk.El 136))],[]⟩,by kernel_rfl,?_⟩;refine(asZ aj d).mono λ e w' ⟨s,c1,xs,f,b8⟩=>?_;obtain⟨i,j⟩:=a.st1 b8 (t:=136) rfl λ _ _ _ l _=>aFl l;refine⟨_,i,j,λ k m _=>b8.bS.block k m (by simp),?_⟩;subst f;have o:ρ.length=2:=a.len;exact⟨trivial,_,by rw[fs (by omega),o];rfl,cu _,λ _=>rfl⟩
theorem atJ(F:Nat):(aha F).hL.Bx aB 82:=by
 intro da db eM h W M0 X ρ w vs a f;obtain⟨⟨⟩,n,⟨⟩⟩:=da;obtain⟨⟨cs,⟨⟩,jm,⟨⟩⟩,bV,⟨⟩⟩:=db;have h:dh _ (I.DF F ⟨cs,bV,jm⟩ n)=some eM:=h;obtain⟨r,i,rfl⟩:=cd.1 h;have a:Mem bk W M0 X (zU cs bV jm) ρ w:=a;obtain⟨g,A,c,q,cb,p,rfl,aj⟩:=ahO a f;refine⟨⟨.ret (.u [.r 2 0,.r 3 0]),zU cs bV jm++[.r 9 0 0 (r.1 :List (bk.El 9)),.r 166 0 0 (r.2 :List (bk.El 166))],[]⟩,by kernel_rfl,?_⟩;refine(as0 aj i).mono λ e w' ⟨s,c1,xs,u,c2,ys,j,b8⟩=>?_;obtain⟨l,m⟩:=a.st2 b8 (t:=9) (t':=166) rfl (λ _ _ _ b _=>aFm b) rfl λ _ _ _ b _=>aFn b;refine⟨_,l,m,λ k o _=>b8.bS.block k o (by simp),?_⟩;subst j;have d:ρ.length=2:=a.len;refine⟨_,rfl,_,_,rfl,⟨trivial,_,by rw[fs (by omega),d];rfl,cu _,λ _=>rfl⟩,_,_,rfl,⟨trivial,_,by rw[fs (by omega),d];rfl,cu _,λ _=>rfl⟩,rfl⟩
theorem asp:iU.Ok:=⟨⟨λ g h e=>(by cases e),λ g h e=>(by cases e)⟩,λ g fn c _ _ _=>uc (λ _=>rfl) c⟩
theorem asQ(F:Nat):(Mb F).Ok:=
 ((aC6 jH (aC5 jH (aC4 jH (aC3 jH (aC2 jH asp))))).oT (f:=82) (by kernel_rfl) λ ys bl r a=>MR (atJ F) ys bl r (AB a)).oT (f:=83) (by kernel_rfl) λ ys bl r a=>MR (atI F) ys bl r (AB a)
end Go.Proofs.YteeliipnilghaaaGreat
namespace a8
open Go Go.RowKit aq I
section
variable{El:Nat->Type}
def SG(bl:List (aC El)):aF El->Option (aF El)
 | .p u=>some (.p u)
 | .s t l=>some (.s t l)
 | .q t l=>some (.s t l)
 | .r i g=>match nth bl i with
   |some (.r t a _ l)=>match bP g a with
    |true=>some (.s t l)
    |false=>none
   |_=>none
 |_=>none
def Im(bl:List (aC El)):List (aF El)->Option (List (aF El))
 |[]=>some []
 |y::r=>match SG bl y,Im bl r with
  |some a,some b=>some (a::b)
  |_,_=>none
def agX:List (aF El)->Bool
 |[]=>false
 | .r _ _::_=>true
 |_::r=>agX r
def SH(g:List (aF El)->List (aC El)->D (fj El))(ys:List (aF El))(bl:List (aC El)):D (fj El):=match agX ys,Im bl ys with
 |true,some a=>(g a []).bind λ r=>match r.e with
  | .ret (.p u)=>.ok ⟨.ret (.p u),bl,[]⟩
  |_=>.no
 |_,_=>g ys bl
end
section
variable{T:bN}{W w:World}{M0:List Nat}{X:Nat->Prop}{bl:List (aC T.El)}{ρ:List Value}
theorem asw(j:Mem T W M0 X bl ρ w){y d:aF T.El}{v:Value}(h:SG bl y=some d)(a:ao T (bi X bl ρ w) w ρ bl y v):ao T (bi (λ _=>False) ([]:List (aC T.El)) [] w) w [] [] d v:=by
 have c:∀ {b:List (aC T.El)}{k:Nat},bi X b ρ w k->bi (λ _=>False) ([]:List (aC T.El)) [] w k/\w.heap[k]? =w.heap[k]? :=λ m=>⟨⟨λ h=>h,λ⟨i,B,u,e,J,_⟩=>by simp at J,m.2.2⟩,rfl⟩
 unfold SG at h;split at h
 ·cases h;simp only[ao]at a⊢;exact a
 ·cases h;simp only[ao]at a⊢;exact(bY _).law (λ k=>c) a
 ·cases h;simp only[ao]at a⊢;exact(bY _).law (λ k=>c) a.1
 ·rename_i i g
  split at h
  ·rename_i t n k l hi
   rw[cW]at hi
   split at h
   ·rename_i af
    have af:=a_ af
    cases h
    simp only[ao]at a⊢
    obtain⟨_,u,e,_,f⟩:=a
    rw[hi]at f
    obtain rfl:=f af
    have o:=(j.freeze hi).1.ok i (.z t n k l) _ (ff (aM.1 hi).1) e
    exact(bY (T.ty t)).law (λ k=>c) (o:(bY (T.ty t)).rd _ w [_] l)
   ·cases h
  ·cases h
 ·cases h
theorem acS(c:Mem T W M0 X bl ρ w):∀ {ys a:List (aF T.El)}{vs:List Value},Im bl ys=some a->a1 T (bi X bl ρ w) w ρ bl ys vs->a1 T (bi (λ _=>False) ([]:List (aC T.El)) [] w) w [] [] a vs
 |[],a,vs,h,b=>by
  simp only[Im,aD]at h;subst h;simpa only[a1]using b
 |y::r,a,vs,h,b=>by
  simp only[Im]at h;split at h
  ·rename_i cE i d J
   cases h
   simp only[a1]at b⊢
   obtain⟨u,us,e,f,g⟩:=b
   exact⟨u,us,e,asw c d f,acS c J g⟩
  ·cases h
end
section
variable{E:Env}{f:Nat}{t:cK E}
theorem atg(l:E.cM=[]){g:List (aF E.T.El)->List (aC E.T.El)->D (fj E.T.El)}(hc:j6 E f g):j6 E f (SH g):=by
 intro ys bl r c W M0 X ρ w vs h d j;unfold SH at c;split at c
 ·rename_i m _ af
  obtain⟨n,o,a⟩:=D.jS c
  split at a
  ·rename_i u p
   have a:(⟨.ret (.p u),bl,[]⟩:fj E.T.El)=r:=a
   subst a
   refine(hc m [] n o w [] (λ _=>False) [] w vs (ahZ w) (λ g y d=>by rw[l]at d;simp[cv]at d) (acS h af j)).mono λ e w' ⟨ρ',i,_,_,b⟩=>?_
   refine⟨ρ,h.eQ i.bS,Mem.sG i.bS,λ k q _=>i.bS.block k q (by simp),?_⟩
   rw[p]at b
   cases e with
   |returned v=>
    simp only[Cl,ao]at b⊢
    exact b
   |panicked y5=>exact b.elim
   |outgrown=>exact b.elim
  ·exact a.elim
 ·exact hc ys bl r c W M0 X ρ w vs h d j
noncomputable def cK.CC(t:cK E)(f:Nat):cK E:=t.f f (SH (t.br f))
theorem cK.Ok.CC(aZ:cX E)(a:E.cM=[])(h:t.Ok){f:Nat}(ad:eX E.b7 f=true):(t.CC f).Ok:=
 h.oT ad (atg a λ ys bl r b=>((k6 aZ h.ce h.le 100).ok f ys bl r b).2)
end
end a8
namespace a8
open Go Go.RowKit aq I
structure aN (E:Env) where
 t:cK E
 ok:cX E->t.Ok
 cM:E.cM=[]
section
variable{E:Env}
noncomputable def aN.rt(s:aN E)(f:Nat)(c:h2 E.T)(a:c.Eq E s.t.br s.t.LE f)(ad:eX E.b7 f=true:=by kernel_rfl):aN E:=⟨s.t.f f (c.run E),λ h=>(s.ok h).rt h s.cM ad a,s.cM⟩
noncomputable def aN.wh(s:aN E)(f:Nat)(c:h2 E.T)(a:c.Eq E s.t.br s.t.LE f)(ad:eX E.b7 f=true:=by kernel_rfl):aN E:=⟨s.t.wh f c,λ h=>(s.ok h).avV h s.cM ad a,s.cM⟩
noncomputable def aN.P6(s:aN E)(f:Nat)(c:ru E.T)(a:c.Eq E s.t.br s.t.LE f)(ad:eX E.b7 f=true:=by kernel_rfl):aN E:=⟨s.t.f f (c.run E),λ h=>(s.ok h).P6 h s.cM ad a,s.cM⟩
noncomputable def aN.fn(s:aN E)(f:Nat)(c:ed E.T)(a:c.Eq E s.t.br s.t.LE f)(ad:eX E.b7 f=true:=by kernel_rfl):aN E:=⟨s.t.f f (c.run E),λ h=>(s.ok h).fn h s.cM ad a,s.cM⟩
noncomputable def aN.iY(s:aN E)(f:Nat)(c:kv E.T)(a:c.Eq E s.t.br s.t.LE f)(ad:eX E.b7 f=true:=by kernel_rfl):aN E:=⟨s.t.f f (c.run E),λ h=>(s.ok h).iY h s.cM ad a,s.cM⟩
noncomputable def aN.FJ(s:aN E)(f:Nat)(c:ed E.T)(a:c.Eq E s.t.br s.t.LE f)(ad:eX E.b7 f=true:=by kernel_rfl):aN E:=⟨s.t.FJ f c,λ h=>(s.ok h).avS h s.cM ad a,s.cM⟩
noncomputable def aN.CC(s:aN E)(f:Nat)(ad:eX E.b7 f=true:=by kernel_rfl):aN E:=⟨s.t.CC f,λ h=>(s.ok h).CC h s.cM ad,s.cM⟩
noncomputable def aN.add(s:aN E)(f:Nat)(r:List (aF E.T.El)->List (aC E.T.El)->D (fj E.T.El))(hc:j6 E f r)(ad:eX E.b7 f=true:=by kernel_rfl):aN E:=⟨s.t.f f r,λ h=>(s.ok h).oT ad hc,s.cM⟩
noncomputable def aN.aiS(s:aN E)(g i:Nat)(r:eB E.T.El->D (b2 E.T.El))(x y:Code)(a:cX E->g∈E.b7->yB E ⟨fp E.P g,[]⟩ r x y)(b:DZ E.P g i=some (x,y):=by kernel_rfl):aN E:=⟨s.t.l g (1000000+i) r,λ h=>(s.ok h).asj b (a h),s.cM⟩
noncomputable def aN.bU(s:aN E)(g i F:Nat)(c:bI E.T)(a:c.ub.nC E s.t.br (s.t.LE g) (fp E.P g) i (hn E.P g i))(b:oh E.P g i=true:=by kernel_rfl):aN E:=⟨s.t.l g i (c.run E F),λ h=>(s.ok h).bU h s.cM b a F,s.cM⟩
noncomputable def aN.J8(s:aN E)(g i F:Nat)(c:bI E.T)(a:c.ub.nC E s.t.br (s.t.LE g) (fp E.P g) i (hn E.P g i))(b:oh E.P g i=true:=by kernel_rfl):aN E:=⟨s.t.J8 g i c F,λ h=>(s.ok h).aBN h s.cM b a F,s.cM⟩
noncomputable def aN.fB(s:aN E)(g i F:Nat)(c:fu E.T)(a:c.Eq E s.t.br (s.t.LE g) (fp E.P g) i (hn E.P g i))(b:oh E.P g i=true:=by kernel_rfl):aN E:=⟨s.t.l g i (c.run E F),λ h=>(s.ok h).fB h s.cM b a F,s.cM⟩
noncomputable def aN.OH(s:aN E)(g i F:Nat)(c:fu E.T)(a:c.Eq E s.t.br (s.t.LE g) (fp E.P g) i (hn E.P g i))(b:oh E.P g i=true:=by kernel_rfl):aN E:=⟨s.t.OH g i c F,λ h=>(s.ok h).aBM h s.cM b a F,s.cM⟩
end
end a8
