/- Part 4 of the proof that is ended in the last text: small logic, what the functions compute, walks, plain laws. -/
import Derived.Test.YteeliipnilghaaaGreatGb3
import Derived.Test.YteeliipnilghaaaGreatChecked
import Derived.KernelRfl
open Array renaming getElem?_eq_none->ib
open Bool renaming and_eq_true->cb,not_eq_true'->ha
open List renaming cons.injEq->h3,flatMap_cons->ig,getElem?_append_right->fq,getElem?_eq_some_iff->aP,getElem?_set_self->gv,length->jb,length_reverse->lQ,map_cons->eB,mem_append_left->gi,mem_cons->cI,mem_flatMap->hM,mem_singleton->dT,nodup_append->fA,not_mem_nil->iH,range->ed
open Nat renaming beq->cy,decEq->l2,eq_of_beq_eq_true->bd,le_refl->cT,le_trans->hv,lt_or_ge->gL
open Option renaming bind->ew,map->ee,map_eq_some_iff->cz,some.inj->eJ,some.injEq->aH
namespace bc
open Go Go.RowKit ay I
structure h_ (T:bT) where
 pas:List cN
 pbs:List bK
 eF:List cN
 dt:List bK
 R:Type
 fn:dv T.El pas×cK T.El pbs->Option R
 n3:dv T.El pas×cK T.El pbs->R->dv T.El eF×cK T.El dt
def h_.hS{T:bT}(c:h_ T):ey T:=⟨c.pas,c.pbs,c.eF,c.dt,λ d=>(c.fn d).map (c.n3 d)⟩
def h_.run(E:Env)(c:h_ E.T)(ys:List (aI E.T.El))(bl:List (aF E.T.El)):D (fu E.T.El):=match gH [] c.pas c.pbs bl ys with
 |(a,b)=>match j' c.pbs c.dt,iw a [] false c.pas c.pbs b with
  |true,some (d,sel)=>.op (c.fn d) λ r=>.ok ⟨.ret (q8 (gu (iW sel a.length) (fx a sel c.dt) c.eF (c.n3 d r).1)),gx a sel c.dt (c.n3 d r).2,sel⟩
  |_,_=>.no
def h_.avw{T:bT}(c:h_ T)(d:dv T.El c.pas×cK T.El c.pbs)(r:c.R):dv T.El c.eF×cK T.El c.dt:=c.n3 d r
def h_.Eq(E:Env)(bu:fp E)(LE:lj E)(f:Nat)(c:h_ E.T):Prop:=∀(da:dv E.T.El c.pas)(db:cK E.T.El c.pbs),(og E bu LE f (gu id (cd false c.pbs) c.pas da) (bP id (cd false c.pbs) false c.pbs db)).run c.hS.fin=(c.fn (da,db)).map (c.avw (da,db))
structure gG (T:bT) (pas:List cN) (pbs:List bK) where
 w:kn
 R:Type
 n3:dv T.El pas×cK T.El pbs->R->yq T.El w
@[reducible] def Ij{T:bT}{pas:List cN}{pbs:List bK}:List (gG T pas pbs)->Type
  |[]=>Empty
  |[w]=>w.R
  |w::v::r=>w.R⊕Ij (v::r)
@[reducible] def Hw{T:bT}{pas:List cN}{pbs:List bK}:List (gG T pas pbs)->List kn
  |[]=>[]
  |w::r=>w.w::Hw r
def bW{T:bT}{pas:List cN}{pbs:List bK}(d:dv T.El pas×cK T.El pbs):(ws:List (gG T pas pbs))->Ij ws->yr T.El (Hw ws)
 |[],r=>r.elim
 |[w],r=>w.n3 d r
 |w::v::ws,r=>match r with
  | .inl a=>.inl (w.n3 d a)
  | .inr b=>.inr (bW d (v::ws) b)
structure bO (T:bT) where
 ss:List Nat
 pas:List cN
 pbs:List bK
 ws:List (gG T pas pbs)
 fn:Nat->dv T.El pas×cK T.El pbs->Option (Ij ws)
def bO.uF{T:bT}(c:bO T):fB T:=⟨c.ss,c.pas,c.pbs,Hw c.ws,λ k d=>(c.fn k d).map λ r=>bW d c.ws r⟩
def Y'(E:Env){pas:List cN}{pbs:List bK}(bl:List (aF E.T.El))(sel us:List Nat)(d:dv E.T.El pas×cK E.T.El pbs):(ws:List (gG E.T pas pbs))->Option (Ij ws)->D (b9 E.T.El)
 |[],_=>.no
 |[w],o=>.op o λ r=>P_ E bl sel us w.w (w.n3 d r)
 |w::v::ws,o=>.u9 o (λ r=>P_ E bl sel us w.w (w.n3 d r)) (λ q=>Y' E bl sel us d (v::ws) (some q))
def bO.run(E:Env)(F:Nat)(c:bO E.T)(s:eP E.T.El):D (b9 E.T.El):=match pR E s.bl s.f [] (c.ss.map .tmp)with
 |some ys=>match gH [] c.pas c.pbs s.bl ys with
  |(a,b)=>match GM c.pbs (Hw c.ws)&&(j' c.pbs c.pbs&&sT c.pbs c.pbs),iw a [] false c.pas c.pbs b with
   |true,some (d,sel)=>Y' E a sel s.ws d c.ws (c.fn F d)
   |_,_=>.no
 |none=>.no
noncomputable def cW.wh{E:Env}(t:cW E)(g:Nat)(c:h_ E.T):cW E:=t.f g λ ys bl=>match c.hS.fit E ys bl with
 |true=>c.run E ys bl
 |false=>t.bu g ys bl
noncomputable def cW.Kx{E:Env}(t:cW E)(g i:Nat)(c:bO E.T)(F:Nat):cW E:=t.l g i λ s=>match c.uF.fit E s with
 |true=>c.run E F s
 |false=>match t.LE g i with
  |some h=>h s
  |none=>.no
structure Fj (T:bT) (pas:List cN) (pbs:List bK) where
 w:mO
 R:Type
 n3:dv T.El pas×cK T.El pbs->R->E3 T.El w
@[reducible] def Ii{T:bT}{pas:List cN}{pbs:List bK}:List (Fj T pas pbs)->Type
  |[]=>Empty
  |[w]=>w.R
  |w::v::r=>w.R⊕Ii (v::r)
@[reducible] def Lc{T:bT}{pas:List cN}{pbs:List bK}:List (Fj T pas pbs)->List mO
  |[]=>[]
  |w::r=>w.w::Lc r
def FC{T:bT}{pas:List cN}{pbs:List bK}(d:dv T.El pas×cK T.El pbs):(ws:List (Fj T pas pbs))->Ii ws->yp T.El (Lc ws)
 |[],r=>r.elim
 |[w],r=>w.n3 d r
 |w::v::ws,r=>match r with
  | .inl a=>.inl (w.n3 d a)
  | .inr b=>.inr (FC d (v::ws) b)
structure rV (T:bT) where
 pas:List cN
 pbs:List bK
 ws:List (Fj T pas pbs)
 fn:dv T.El pas×cK T.El pbs->Option (Ii ws)
def rV.jk{T:bT}(c:rV T):kN T:=⟨c.pas,c.pbs,Lc c.ws,λ d=>(c.fn d).map λ r=>FC d c.ws r⟩
def aay(E:Env){pas:List cN}{pbs:List bK}(bl:List (aF E.T.El))(sel:List Nat)(d:dv E.T.El pas×cK E.T.El pbs):(ws:List (Fj E.T pas pbs))->Option (Ii ws)->D (fu E.T.El)
 |[],_=>.no
 |[w],o=>.op o λ r=>K_ E bl sel w.w (w.n3 d r)
 |w::v::ws,o=>.u9 o (λ r=>K_ E bl sel w.w (w.n3 d r)) (λ q=>aay E bl sel d (v::ws) (some q))
def rV.run(E:Env)(c:rV E.T)(ys:List (aI E.T.El))(bl:List (aF E.T.El)):D (fu E.T.El):=match gH [] c.pas c.pbs bl ys with
 |(a,b)=>match KJ c.pbs (Lc c.ws),iw a [] false c.pas c.pbs b with
  |true,some (d,sel)=>aay E a sel d c.ws (c.fn d)
  |_,_=>.no
def rV.Eq(E:Env)(bu:fp E)(LE:lj E)(f:Nat)(c:rV E.T):Prop:=∀(da:dv E.T.El c.pas)(db:cK E.T.El c.pbs),(og E bu LE f (gu id (cd false c.pbs) c.pas da) (bP id (cd false c.pbs) false c.pbs db)).run c.jk.fin=(c.fn (da,db)).map λ r=>FC (da,db) c.ws r
def mw(T:bT)(t b3:Nat):h_ T:=⟨[.p (.l t)],[],[.p (.R 0)],[.r t false],List (T.El t),λ d=>bI b3 [] d.1.1,λ _ r=>(((),()),(r,()))⟩
section
variable{E:Env}{t:cW E}
theorem Ay{c:h_ E.T}{ys:List (aI E.T.El)}{bl:List (aF E.T.El)}{r:fu E.T.El}(h:(c.run E ys bl).out r):(c.hS.run E ys bl).out r:=by
 unfold h_.run at h;unfold ey.run h_.hS;dsimp only;cases ad:gH [] c.pas c.pbs bl ys with
 |mk d e=>
 rw[ad]at h;dsimp only at h⊢;split at h
 ·rename_i a J
  rw[a,J]
  obtain⟨q,b,ao⟩:=h
  exact⟨_,by rw[b];rfl,ao⟩
 ·exact h.elim
theorem akU{pas:List cN}{pbs:List bK}{bl:List (aF E.T.El)}{sel us:List Nat}{d:dv E.T.El pas×cK E.T.El pbs}:∀ {ws:List (gG E.T pas pbs)}{o:Option (Ij ws)}{r:b9 E.T.El},(Y' E bl sel us d ws o).out r->(G4 E bl sel us (Hw ws) (o.map (bW d ws))).out r
 |[],o,r,h=>h.elim
 |[w],o,r,h=>by
  obtain⟨q,a,ao⟩:=h;exact⟨_,by rw[a];rfl,ao⟩
 |w::v::ws,o,r,h=>by
  rcases h with⟨q,a,ao⟩|⟨q,a,ao⟩
  ·exact .inl ⟨_,by rw[a];rfl,ao⟩
  ·exact .inr ⟨_,by rw[a];rfl,akU ao⟩
theorem ajt{c:bO E.T}{F:Nat}{s:eP E.T.El}{r:b9 E.T.El}(h:(c.run E F s).out r):(c.uF.run E F s).out r:=by
 unfold bO.run at h;unfold fB.run bO.uF;dsimp only at h⊢;cases hy:pR E s.bl s.f [] (c.ss.map .tmp)with
 |none=>rw[hy]at h;exact h.elim
 |some ys=>
  rw[hy]at h
  dsimp only at h⊢
  cases ad:gH [] c.pas c.pbs s.bl ys with
  |mk b d=>
  rw[ad]at h
  dsimp only at h⊢
  cases a:GM c.pbs (Hw c.ws)&&(j' c.pbs c.pbs&&sT c.pbs c.pbs)with
  |false=>rw[a]at h;exact h.elim
  |true=>
   cases J:iw b [] false c.pas c.pbs d with
   |none=>rw[a,J]at h;exact h.elim
   |some ds=>rw[a,J]at h;exact akU h
theorem alC{pas:List cN}{pbs:List bK}{bl:List (aF E.T.El)}{sel:List Nat}{d:dv E.T.El pas×cK E.T.El pbs}:∀ {ws:List (Fj E.T pas pbs)}{o:Option (Ii ws)}{r:fu E.T.El},(aay E bl sel d ws o).out r->(Ha E bl sel (Lc ws) (o.map λ r=>FC d ws r)).out r
 |[],o,r,h=>h.elim
 |[w],o,r,h=>by
  obtain⟨q,a,ao⟩:=h;exact⟨_,by rw[a];rfl,ao⟩
 |w::v::ws,o,r,h=>by
  rcases h with⟨q,a,ao⟩|⟨q,a,ao⟩
  ·exact .inl ⟨_,by rw[a];rfl,ao⟩
  ·exact .inr ⟨_,by rw[a];rfl,alC ao⟩
theorem aIr{c:rV E.T}{ys:List (aI E.T.El)}{bl:List (aF E.T.El)}{r:fu E.T.El}(h:(c.run E ys bl).out r):(c.jk.run E ys bl).out r:=by
 unfold rV.run at h;unfold kN.run rV.jk;dsimp only;cases ad:gH [] c.pas c.pbs bl ys with
 |mk b d=>
 rw[ad]at h;dsimp only at h⊢;split at h
 ·rename_i a J
  rw[a,J]
  exact alC h
 ·exact h.elim
theorem cW.Ok.QA(a7:di E)(a:E.cY=[])(h:t.Ok){f:Nat}(ad:ff E.cf f=true){c:rV E.T}(b:c.Eq E t.bu t.LE f):(t.f f (c.run E)).Ok:=
 h.pd ad λ ys bl r d=>aeP a7 (lr a7 h.ce h.le 100) h.le a (c:=c.jk) (λ da db _ e=>(b da db).trans e) ys bl r (aIr d)
theorem cW.Ok.rt(a7:di E)(a:E.cY=[])(h:t.Ok){f:Nat}(ad:ff E.cf f=true){c:h_ E.T}(b:c.Eq E t.bu t.LE f):(t.f f (c.run E)).Ok:=
 h.pd ad λ ys bl r d=>FA a7 (lr a7 h.ce h.le 100) h.le a (c:=c.hS) (ey.Eq.v b) ys bl r (Ay d)
theorem cW.Ok.b1(a7:di E)(b:E.cY=[])(h:t.Ok){g i:Nat}(a:oK E.P g i=true){c:bO E.T}(d:c.uF.nZ E t.bu (t.LE g) (fz E.P g) i (ht E.P g i))(F:Nat):(t.l g i (c.run E F)).Ok:=
 h.MU a7 a λ e s r f=>h.N3 a7 b a d F e s r (ajt f)
theorem cW.Ok.axN(a7:di E)(b:E.cY=[])(h:t.Ok){f:Nat}(ad:ff E.cf f=true){c:h_ E.T}(d:c.Eq E t.bu t.LE f):(t.wh f c).Ok:=by
 refine h.pd ad λ ys bl r a=>?_;split at a
 ·exact FA a7 (lr a7 h.ce h.le 100) h.le b (c:=c.hS) (ey.Eq.v d) ys bl r (Ay a)
 ·exact((lr a7 h.ce h.le 100).ok f ys bl r a).2
theorem cW.Ok.aDW(a7:di E)(k:E.cY=[])(h:t.Ok){g i:Nat}(a:oK E.P g i=true){c:bO E.T}(l:c.uF.nZ E t.bu (t.LE g) (fz E.P g) i (ht E.P g i))(F:Nat):(t.Kx g i c F).Ok:=by
 refine h.MU a7 a λ f s r d=>?_;split at d
 ·exact h.N3 a7 k a l F f s r (ajt d)
 ·split at d
  ·rename_i q m
   have v:=a
   unfold oK at a
   split at a
   ·rename_i b ag
    have n:ht E.P g i=b:=by unfold ht;rw[ag]
    rw[n]
    unfold qD at ag
    split at ag
    ·rename_i fn j
     split at ag
     ·rename_i o p
      have e:=h.le g fn o f j p
      have u:fz E.P g=fn.ntmps:=by unfold fz;rw[j]
      rw[u]
      exact xk m e ag s r d
     ·simp[fw]at ag
    ·simp[fw]at ag
   ·cases a
  ·exact d.elim
theorem cW.Ok.K2(a7:di E)(n:E.cY=[])(h:t.Ok){f b b3:Nat}(ad:ff E.cf f=true)
 (o:(og E t.bu t.LE f [.p (.slice none 0 0)] []).run (mw E.T b b3).hS.fin=some (((),()),([],())))
 (p:∀(a:Addr)(c:Nat),(og E t.bu t.LE f [.p (.slice (some a) 0 c)] []).run (mw E.T b b3).hS.fin=some (((),()),([],())))
 (J:∀(d:E.T.El b)(l:List (E.T.El b)),(og E t.bu t.LE f [.s b (d::l)] []).run (mw E.T b b3).hS.fin=(bI b3 [] (d::l)).bind λ r=>some (((),()),(r,()))):(t.f f ((mw E.T b b3).run E)).Ok:=by
 refine h.pd ad λ ys bl r q=>FA a7 (lr a7 h.ce h.le 100) h.le n (c:=(mw E.T b b3).hS) (λ da db F w ρ bl vs j=>?_) ys bl r (Ay q)
 obtain⟨l,⟨⟩⟩:=da
 have s:bI b3 ([]:List (E.T.El b)) []=some []:=by simp[bI]
 have k:∀l:List (E.T.El b),(mw E.T b b3).hS.fn ((l,()),db)=(bI b3 [] l).bind λ r=>some (((),()),(r,())):=λ l=>by
  show ee _ (bI b3 [] l)=_
  cases bI b3 ([]:List (E.T.El b)) l<;>rfl
 cases l with
 |cons d l=>exact⟨_,j,λ r g=>(J d l).trans ((k _).symm.trans g)⟩
 |nil=>
  have m:a8 E.T F w ρ bl [.s b []] vs:=j
  simp only[a8,aw]at m
  obtain⟨u,us,rfl,v,rfl⟩:=m
  obtain⟨A,c,e,x,ao,aT,_⟩:=v
  simp only[h3,and_true]at e
  subst e
  have i:=k []
  rw[s]at i
  cases A with
  |none=>
   rw[aT rfl]
   exact⟨[.p (.slice none 0 0)],by simp[a8,aw],λ r g=>o.trans (i.symm.trans g)⟩
  |some a=>exact⟨[.p (.slice (some a) 0 c)],by simp[a8,aw],λ r g=>(p a c).trans (i.symm.trans g)⟩
end
end bc
namespace I
def bf{ρ α:Type}(o:Option (Way ρ α)):Option (α⊕ρ):=match o with
 |none=>none
 |some (.go a)=>some (.inl a)
 |some (.out r)=>some (.inr r)
noncomputable def dq{α:Type}(p:Prop)(o:Option α):Option α:=@ite _ p (Classical.propDecidable p) o none
theorem dJ{α:Type}{p:Prop}{o:Option α}(h:p):dq p o=o:=by unfold dq;exact if_pos h
theorem dI{α:Type}{p:Prop}:dq p (none:Option α)=none:=by unfold dq;split<;>rfl
theorem eh{α:Type}{p:Prop}{o:Option α}{r:α}(h:dq p o=some r):p/\o=some r:=by
 unfold dq at h;split at h
 ·rename_i a
  exact⟨a,h⟩
 ·cases h
section
variable{α β cB rJ ρ σ:Type}
theorem aEH(o:Option (Way ρ α))(k:α->Option (Way ρ β)):dd o k=dy (bf o) k (λ r=>some (.out r)):=by
 cases o with
 |none=>rfl
 |some y=>cases y<;>rfl
theorem aES(o:Option (Way ρ α))(k:α->Option ρ):cm o k=dy (bf o) k (λ r=>some r):=by
 cases o with
 |none=>rfl
 |some y=>cases y<;>rfl
theorem aEZ(a:α):bf (some (.go a):Option (Way ρ α))=some (.inl a):=rfl
theorem aE0(r:ρ):bf (some (.out r):Option (Way ρ α))=some (.inr r):=rfl
theorem aE1:bf (none:Option (Way ρ α))=none:=rfl
theorem aE2(o:Option cB)(f:cB->Option (Way ρ α)):bf (o.bind f)=o.bind λ x=>bf (f x):=by cases o<;>rfl
theorem aE3(c:Bool)(x y:Option (Way ρ α)):bf (cond c x y)=cond c (bf x) (bf y):=by cases c<;>rfl
theorem aE4(o:Option (cB⊕rJ))(f:cB->Option (Way ρ α))(g:rJ->Option (Way ρ α)):bf (dy o f g)=dy o (λ x=>bf (f x)) (λ x=>bf (g x)):=by
 cases o with
 |none=>rfl
 |some y=>cases y<;>rfl
theorem aE5(a:α)(k:α->Option cB)(l:β->Option cB):dy (some (.inl a)) k l=k a:=rfl
theorem aEI(b:β)(k:α->Option cB)(l:β->Option cB):dy (some (.inr b)) k l=l b:=rfl
theorem aEJ(k:α->Option cB)(l:β->Option cB):dy none k l=none:=rfl
theorem aEK(o:Option rJ)(f:rJ->Option (α⊕β))(k:α->Option cB)(l:β->Option cB):dy (o.bind f) k l=o.bind λ x=>dy (f x) k l:=by cases o<;>rfl
theorem aEL(c:Bool)(x y:Option (α⊕β))(k:α->Option cB)(l:β->Option cB):dy (cond c x y) k l=cond c (dy x k l) (dy y k l):=by cases c<;>rfl
theorem aEM(o:Option (ρ⊕σ))(f:ρ->Option (α⊕β))(g:σ->Option (α⊕β))(k:α->Option cB)(l:β->Option cB):dy (dy o f g) k l=dy o (λ x=>dy (f x) k l) (λ x=>dy (g x) k l):=by
 cases o with
 |none=>rfl
 |some y=>cases y<;>rfl
theorem aEN(o:Option α)(f:α->Option β)(g:β->Option cB):(o.bind f).bind g=o.bind λ x=>(f x).bind g:=by cases o<;>rfl
theorem aEO(a:α)(f:α->Option β):(some a).bind f=f a:=rfl
theorem aEP(f:α->Option β):ew none f=none:=rfl
theorem aEQ(c:Bool)(x y:Option α)(f:α->Option β):(cond c x y).bind f=cond c (x.bind f) (y.bind f):=by cases c<;>rfl
theorem aER(o:Option (ρ⊕σ))(k:ρ->Option α)(l:σ->Option α)(f:α->Option β):(dy o k l).bind f=dy o (λ x=>(k x).bind f) (λ x=>(l x).bind f):=by
 cases o with
 |none=>rfl
 |some y=>cases y<;>rfl
theorem aET(o:Option α)(f:α->Option β)(g:β->cB):(o.bind f).map g=o.bind λ x=>(f x).map g:=by cases o<;>rfl
theorem aEU(c:Bool)(x y:Option α)(g:α->cB):(cond c x y).map g=cond c (x.map g) (y.map g):=by cases c<;>rfl
theorem aEV(a:α)(g:α->cB):(some a).map g=some (g a):=rfl
theorem aEW(g:α->cB):ee g none=none:=rfl
theorem aEX(o:Option (ρ⊕σ))(k:ρ->Option α)(l:σ->Option α)(g:α->cB):(dy o k l).map g=dy o (λ x=>(k x).map g) (λ x=>(l x).map g):=by
 cases o with
 |none=>rfl
 |some y=>cases y<;>rfl
theorem aEY{cR:Type}(k:cR)(b:cR->Option α):join k b=b k:=rfl
def iB{α β:Type}(o:Option (Option α×β)):Option ((α×β)⊕β):=match o with
 |none=>none
 |some (some v,e)=>some (.inl (v,e))
 |some (none,e)=>some (.inr e)
theorem ajZ(o:Option (Option α×β))(f:Option α×β->Option cB):o.bind f=dy (iB o) (λ p=>f (some p.1,p.2)) (λ e=>f (none,e)):=by
 rcases o with _ |⟨_ |v,e⟩<;>rfl
theorem aj0(v:α)(e:β):iB (some (some v,e))=some (.inl (v,e)):=rfl
theorem aj1(e:β):iB (some ((none:Option α),e))=some (.inr e):=rfl
theorem aj2:iB (none:Option (Option α×β))=none:=rfl
theorem aj3(o:Option cB)(f:cB->Option (Option α×β)):iB (o.bind f)=o.bind λ x=>iB (f x):=by cases o<;>rfl
theorem aj4(c:Bool)(x y:Option (Option α×β)):iB (cond c x y)=cond c (iB x) (iB y):=by cases c<;>rfl
theorem aj5(o:Option (cB⊕rJ))(f:cB->Option (Option α×β))(g:rJ->Option (Option α×β)):iB (dy o f g)=dy o (λ x=>iB (f x)) (λ x=>iB (g x)):=by
 cases o with
 |none=>rfl
 |some y=>cases y<;>rfl
theorem aED(b x:Bool):cond b (some x) (some false)=some (b&&x):=by cases b<;>rfl
theorem aEE{α:Type}(a b:Bool)(x y:Option α):cond a (cond b x y) y=cond (a&&b) x y:=by cases a<;>rfl
theorem YG{α:Type}(a b:Bool)(x y:Option α):cond a x (cond b x y)=cond (a||b) x y:=by cases a<;>rfl
theorem ba:(∀ {α β ρ:Type}(o:Option (Way ρ α))(k:α->Option (Way ρ β)),dd o k=dy (bf o) k (λ r=>some (.out r)))/\(∀ {α ρ:Type}(o:Option (Way ρ α))(k:α->Option ρ),cm o k=dy (bf o) k (λ r=>some r))/\(∀ {α ρ:Type}(a:α),bf (some (.go a):Option (Way ρ α))=some (.inl a))/\(∀ {α ρ:Type}(r:ρ),bf (some (.out r):Option (Way ρ α))=some (.inr r))/\(∀ {α ρ:Type},bf (none:Option (Way ρ α))=none)/\(∀ {α cB ρ:Type}(o:Option cB)(f:cB->Option (Way ρ α)),bf (o.bind f)=o.bind λ x=>bf (f x))/\(∀ {α ρ:Type}(c:Bool)(x y:Option (Way ρ α)),bf (cond c x y)=cond c (bf x) (bf y))/\(∀ {α cB rJ ρ:Type}(o:Option (cB⊕rJ))(f:cB->Option (Way ρ α))(g:rJ->Option (Way ρ α)),bf (dy o f g)=dy o (λ x=>bf (f x)) (λ x=>bf (g x)))/\(∀ {α β cB:Type}(a:α)(k:α->Option cB)(l:β->Option cB),dy (some (.inl a)) k l=k a)/\(∀ {α β cB:Type}(b:β)(k:α->Option cB)(l:β->Option cB),dy (some (.inr b)) k l=l b)/\(∀ {α β cB:Type}(k:α->Option cB)(l:β->Option cB),dy none k l=none)/\(∀ {α β cB rJ:Type}(o:Option rJ)(f:rJ->Option (α⊕β))(k:α->Option cB)(l:β->Option cB),dy (o.bind f) k l=o.bind λ x=>dy (f x) k l)/\(∀ {α β cB:Type}(c:Bool)(x y:Option (α⊕β))(k:α->Option cB)(l:β->Option cB),dy (cond c x y) k l=cond c (dy x k l) (dy y k l))/\(∀ {α β cB ρ σ:Type}(o:Option (ρ⊕σ))(f:ρ->Option (α⊕β))(g:σ->Option (α⊕β))(k:α->Option cB)(l:β->Option cB),dy (dy o f g) k l=dy o (λ x=>dy (f x) k l) (λ x=>dy (g x) k l))/\(∀ {α β cB:Type}(o:Option α)(f:α->Option β)(g:β->Option cB),(o.bind f).bind g=o.bind λ x=>(f x).bind g)/\(∀ {α β:Type}(a:α)(f:α->Option β),(some a).bind f=f a)/\(∀ {α β:Type}(f:α->Option β),ew none f=none)/\(∀ {α β:Type}(c:Bool)(x y:Option α)(f:α->Option β),(cond c x y).bind f=cond c (x.bind f) (y.bind f))/\(∀ {α β ρ σ:Type}(o:Option (ρ⊕σ))(k:ρ->Option α)(l:σ->Option α)(f:α->Option β),(dy o k l).bind f=dy o (λ x=>(k x).bind f) (λ x=>(l x).bind f))/\(∀ {α β cB:Type}(o:Option α)(f:α->Option β)(g:β->cB),(o.bind f).map g=o.bind λ x=>(f x).map g)/\(∀ {α cB:Type}(c:Bool)(x y:Option α)(g:α->cB),(cond c x y).map g=cond c (x.map g) (y.map g))/\(∀ {α cB:Type}(a:α)(g:α->cB),(some a).map g=some (g a))/\(∀ {α cB:Type}(g:α->cB),ee g none=none)/\(∀ {α cB ρ σ:Type}(o:Option (ρ⊕σ))(k:ρ->Option α)(l:σ->Option α)(g:α->cB),(dy o k l).map g=dy o (λ x=>(k x).map g) (λ x=>(l x).map g))/\(∀ {α:Type}{cR:Type}(k:cR)(b:cR->Option α),join k b=b k):=⟨aEH,aES,aEZ,aE0,aE1,aE2,aE3,aE4,aE5,aEI,aEJ,aEK,aEL,aEM,aEN,aEO,aEP,aEQ,aER,aET,aEU,aEV,aEW,aEX,aEY⟩
end
end I
namespace bc
open Go Go.RowKit ay I
theorem bO.bX{E:Env}{bu:fp E}{LE:nY E}{n id:Nat}{body:Code}{c:bO E.T}(a:∀d,c.fn 0 d=none)
 (b:∀k (da:dv E.T.El c.pas)(db:cK E.T.El c.pbs) q,c.fn (k+1) (da,db)=some q->(den E bu LE n body (zn E c.uF da db)).run (c.uF.fin E id k)=(c.fn (k+1) (da,db)).map λ r=>bW (da,db) c.ws r):c.uF.nZ E bu LE n id body:=
 ⟨λ d=>by exact(congrArg (ee _) (a d)).trans rfl,λ k da db r h=>by
  obtain⟨q,e,_⟩:=cz.1 h;exact(b k da db q e).trans h⟩
end bc
namespace bc
open Go Go.RowKit ay I
def okF(P:Program)(f:Nat):Bool:=match P.funcs[f]? with
 |some fn=>!(fn.name== "runtime.NumGoroutine")&& !fn.body.isNone
 |none=>false
theorem akc{P:Program}{f:Nat}(h:okF P f=true)(args:Array Value)(w:World):(callFunc f args).run P w= .ok (.enter f args) w:=by
 unfold okF at h;split at h
 ·rename_i fn ad
  simp only[cb,ha]at h
  have a: ¬fn.name= "runtime.NumGoroutine" :=λ e=>by rw[e]at h;simp at h
  cases ag:fn.body with
  |none=>rw[ag]at h;simp at h
  |some c=>simp[callFunc,go_sem,ad,a,ag]
 ·cases h
def PU(P:Program):List Nat->Bool
 |[]=>true
 |f::r=>okF P f&&PU P r
theorem YR{P:Program}:∀ {l:List Nat}{f:Nat},PU P l=true->f∈l->okF P f=true
 |g::r,f,h,ad=>by
  simp only[PU,cb]at h;rcases cI.1 ad with rfl |ad
  ·exact h.1
  ·exact YR h.2 ad
theorem Qj{α:Type}{A B:dj α}{F F':Nat->Prop}{w w':World}(h:∀cs d,A.rd F w cs d->B.rd F' w' cs d):∀ {l:List α}{xs:List Value},dM A F w xs l->dM B F' w' xs l
 |[],xs,a=>a
 |d::r,xs,a=>by
  obtain⟨cs,ys,rfl,b,J⟩:=a;exact⟨cs,ys,rfl,h _ _ b,Qj h J⟩
theorem jz{α:Type}{A B:dj α}{F:Nat->Prop}{w:World}(h:∀cs d,A.rd F w cs d->B.rd F w cs d){xs:List Value}{l:List α}(a:(b5 A).rd F w xs l):(b5 B).rd F w xs l:=by
 obtain⟨P,c,e,b,J,f,g⟩:=a;refine⟨P,c,e,b,J,f,λ i=>?_⟩;obtain⟨j,k,ys,m,n⟩:=g i;exact⟨j,k,ys,Qj h m,n⟩
def BD(P:Program)(T:bT)(t:Nat)(e:b7 T.El t):Prop:=∀f,e.eq=some f-> ∀F w xs ys d e',e.ty.rd F w xs d->e.ty.rd F w ys e'-> ∀(o:Oper)(a:Act)(x y:Operand)(t':TypeId)(b:Bool),o.op= .binOp (cond b .eql .neq) t x y t'->a.eval x= .agg ⟨xs⟩->a.eval y= .agg ⟨ys⟩-> ∀w',bh P o a w' (.bool (cond b (f d e') (!f d e'))) w'
def Ud(P:Program)(T:bT):List (Σ t,b7 T.El t)->Prop
 |[]=>True
 |p::r=>BD P T p.1 p.2/\Ud P T r
theorem Uc{P:Program}{T:bT}{t:Nat}:∀ {es:List (Σ t,b7 T.El t)},Ud P T es->BD P T t (fM es t)
 |[],_=>λ f ad=>by cases ad
 |p::r,h=>by
  simp only[fM];split
  ·rename_i e _
   subst e
   exact h.1
  ·exact Uc h.2
theorem fC{P:Program}{T:bT}{t:Nat}{e:b7 T.El t}(h:e.eq=none):BD P T t e:=λ f ad=>by rw[h]at ad;cases ad
section
variable{E:Env}{f:Nat}
theorem ajy(W:World):Mem E.T W [] (λ _=>False) [] [] W:=
 ⟨br.refl _ _,rfl,λ _ h=>h.elim,λ k ⟨i,B,h,a,_⟩=>by simp at a,λ i j B C h g a=>by simp at a,λ i B h a=>by simp at a⟩
theorem aDB(c:E.cY=[]){g:List (aI E.T.El)->List (aF E.T.El)->D (fu E.T.El)}(hc:kj E f g){ys:List (aI E.T.El)}(d:(g ys []).out ⟨.ret (.p (.bool true)),[],[]⟩){W:World}{vs:List Value}(j:a8 E.T (λ k=>k<W.heap.size) W [] [] ys vs) :
 Calls E.P f ⟨vs⟩ W λ e w'=>e= .returned (.bool true)/\br [] W w':=by
 have l:a8 E.T (bk (λ _=>False) ([]:List (aF E.T.El)) [] W) W [] [] ys vs:=a8.later (λ k m=>⟨⟨λ h=>h,λ⟨i,B,h,n,_⟩=>by simp at n,m⟩,rfl⟩) .refl ys j
 refine(hc ys [] _ d W [] (λ _=>False) [] W vs (ajy W) (λ g y b=>by rw[c]at b;simp[cG]at b) l).mono λ e w' ⟨ρ',o,_,_,a⟩=>?_
 cases e with
 |returned v=>
  have a:v= .bool true:=by
   simp only[Co,aw]at a;exact a
  exact⟨by rw[a],o.bY⟩
 |panicked qB=>exact a.elim
 |outgrown=>exact a.elim
end
end bc
namespace bc
open Go Go.RowKit ay I
section
variable{T:bT}{W w w':World}{M0:List Nat}{X:Nat->Prop}{bl:List (aF T.El)}{ρ:List Value}{E:List bb}{D:List bF}
variable{t sz:Nat}{h:Value}{l:List (T.El t)}{xs:List Value}{R:dj (T.El t)}
variable{t' u_:Nat}{h':Value}{l':List (T.El t')}{e5:List Value}{adL:dj (T.El t')}
theorem ay1{A:Option Addr}{n c k:Nat}(a:k∈ag (.slice A n c)):k∈(Value.slice A n c).ownBlock.toList:=by
 cases A<;>cases c<;>simp_all [ag,Value.ownBlock]
theorem aav{F:Nat->Prop}{M:List Nat}(a:(bb.row t sz h l xs).ok w')(b:(bF.rows R xs l).ok M w')(e:(T.ty t).size=sz)(f:∀F cs d,R.rd F w' cs d-> ∀F',(T.ty t).rd F' w' cs d)(g k:Nat):jj T F w' ρ bl (.r t g k l) h:=by
 subst e;obtain⟨A,c,rfl,_⟩:=La a;exact⟨A,c,xs,rfl,.inl a,Qj (λ cs d i=>f _ _ _ i _) b⟩
theorem NJ(aj:bz w [] [] w' E D)(hi:bb.row t sz h l xs∈E){g k:Nat}:∀q∈bE (aF.r t g k l:aF T.El) h,q∈(bb.row t sz h l xs).bE/\w.heap.size<=q/\q<w'.heap.size:=λ q d=>by
 obtain⟨A,c,rfl,_⟩:=La (aj.ok _ hi);have a:q∈(bb.row t sz (.slice A l.length c) l xs).bE:=ay1 d;have b:=aj.lt q (hM.2 ⟨_,hi,a⟩);exact⟨a,b.2.resolve_left (by simp),b.1⟩
theorem Mem.st1(b:Mem T W M0 X bl ρ w)(aj:bz w [] [] w' (bb.row t sz h l xs::E) (bF.rows R xs l::D))(c:(T.ty t).size=sz)(e:∀F cs d,R.rd F w' cs d-> ∀F',(T.ty t).rd F' w' cs d) :
 Mem T W M0 X (bl++[.r t 0 0 l]) (ρ++[h]) w'/\To X bl (bl++[.r t 0 0 l]) ρ (ρ++[h]) w w':=
 ⟨b.push aj.bY (λ q a=>(NJ (xs:=xs) (sz:=sz) aj (by simp) q a).2) (aav (aj.e 0 rfl) (aj.d 0 rfl) c e 0 0),b.AN aj.bY λ q a=>(NJ (xs:=xs) (sz:=sz) aj (by simp) q a).2⟩
theorem Mem.st2(f:Mem T W M0 X bl ρ w)(aj:bz w [] [] w' (bb.row t sz h l xs::bb.row t' u_ h' l' e5::E) (bF.rows R xs l::bF.rows adL e5 l'::D))(i:(T.ty t).size=sz)(j:∀F cs d,R.rd F w' cs d-> ∀F',(T.ty t).rd F' w' cs d)
 (m:(T.ty t').size=u_)(b:∀F cs d,adL.rd F w' cs d-> ∀F',(T.ty t').rd F' w' cs d) :
 Mem T W M0 X (bl++[.r t 0 0 l,.r t' 0 0 l']) (ρ++[h,h']) w'/\To X bl (bl++[.r t 0 0 l,.r t' 0 0 l']) ρ (ρ++[h,h']) w w':=by
 have c:=NJ (T:=T) (g:=0) (k:=0) (l:=l) (h:=h) (xs:=xs) (sz:=sz) aj (by simp)
 have e:=NJ (T:=T) (g:=0) (k:=0) (l:=l') (h:=h') (xs:=e5) (sz:=u_) aj (by simp)
 have aL:=aj.bC
 simp only[bZ,ig]at aL
 refine⟨f.akQ aj.bY (λ q a=>(c q a).2) (λ q a=>(e q a).2) (λ q n J=>?_) (aav (aj.e 0 rfl) (aj.d 0 rfl) i j 0 0) (aav (aj.e 1 rfl) (aj.d 1 rfl) m b 0 0),f.aa' aj.bY (λ q a=>(c q a).2) λ q a=>(e q a).2⟩
 exact(fA.1 aL).2.2 q (c q n).1 q (gi _ (e q J).1) rfl
end
end bc
namespace bc
open Go Go.RowKit ay I
def abe{α:Type}(T:dj α):dj α where
 size:=1
 rd F w cs d:=∃a q us,cs=[.pointer (some ⟨a,q,none⟩)]/\F a/\T.rd F w us d/\fo w ⟨a,q,none⟩ us
 len h:=by obtain⟨a,q,us,rfl,_⟩:=h;rfl
 one h v c:=by
  obtain⟨a,q,us,rfl,_⟩:=h;simp only[dT]at c;subst c;rfl
 law b h:=by
  obtain⟨a,q,us,rfl,e,J,f⟩:=h;exact⟨a,q,us,rfl,(b a e).1,T.law b J,f.law (b a e).2⟩
def Xu{El:Nat->Type}(s:Nat):List (aI El)->Option (El s)
 |[.x t d 0]=>match l2 t s with
  | .isTrue h=>some (h▸d)
  | .isFalse _=>none
 |_=>none
section
variable{T:bT}{F:Nat->Prop}{w:World}{ρ:List Value}{bl:List (aF T.El)}
theorem aBz{s:Nat}{l:List (aI T.El)}{d:T.El s}(h:Xu s l=some d){xs:List Value}(b:a8 T F w ρ bl l xs):(abe (T.ty s)).rd F w xs d:=by
 unfold Xu at h;split at h
 ·rename_i t d'
  split at h
  ·rename_i e _
   subst e
   simp only[aH]at h
   subst h
   simp only[a8]at b
   obtain⟨u,us,rfl,c,rfl⟩:=b
   simp only[aw]at c
   obtain⟨a,q,cs,rfl,f,J,g⟩:=c
   exact⟨a,q,cs,rfl,f,J,g⟩
  ·cases h
 ·cases h
theorem avt{s:Nat}{d:T.El s}{xs:List Value}(h:(abe (T.ty s)).rd F w xs d):a8 T F w ρ bl [.x s d 0] xs:=by
 obtain⟨a,q,us,rfl,b,J,c⟩:=h;simp only[a8];refine⟨_,_,rfl,?_,rfl⟩;simp only[aw];exact⟨a,q,us,rfl,b,J,c⟩
end
end bc
namespace Go.Proofs.YteeliipnilghaaaGreat
open Go Go.RowKit ay bc
def cp:Nat->Type:=afE [(2,Int),(3,Int),(4,Bool),(5,UInt8),(6,UInt8),(9,List UInt8),(10,List UInt8),(11,List UInt8),(21,Int),(22,List Int),(24,I.aV),(136,I.Field),(128,I.Kind),(157,I.Handler),(131,I.Method),(134,I.ap),(25,List I.ap),(124,List I.Field),(26,List (List I.Field)),(120,List (List UInt8)),(27,List (List (List UInt8))),(166,I.Target),(121,List I.Target),(28,List (List I.Target)),(30,I.aO),(31,Int),(69,I.b'),(126,List I.Kind),(129,List I.Handler),(132,List I.Method),(192,Int),(202,List (List Int)),(204,List UInt8),(219,UInt8),(220,UInt8),(223,Int),(224,Int),(109,Int)]
def afP:List (Σ t,b7 cp t):=[]
def ao:b7 cp 2:=fb afP false [.i .i64] (λ(d:Int)=>(d,())) (λ(p:Int×Unit)=>p.1) none (some uC)
def FI:List (Σ t,b7 cp t):=⟨2,ao⟩::afP
def aT:b7 cp 3:=fb FI false [.i .i64] (λ(d:Int)=>(d,())) (λ(p:Int×Unit)=>p.1) none (some uC)
def af9:List (Σ t,b7 cp t):=⟨3,aT⟩::FI
def bQ:b7 cp 4:=fb af9 false [.b] (λ(d:Bool)=>(d,())) (λ(p:Bool×Unit)=>p.1) none none
def Ui:List (Σ t,b7 cp t):=⟨4,bQ⟩::af9
def dw:b7 cp 5:=fb Ui false [.y] (λ(d:UInt8)=>(d,())) (λ(p:UInt8×Unit)=>p.1) none none
def aga:List (Σ t,b7 cp t):=⟨5,dw⟩::Ui
def eR:b7 cp 6:=fb aga false [.y] (λ(d:UInt8)=>(d,())) (λ(p:UInt8×Unit)=>p.1) none none
def Nz:List (Σ t,b7 cp t):=⟨6,eR⟩::aga
def FG:b7 cp 9:=fb Nz false [.s] (λ(d:List UInt8)=>(d,())) (λ(p:(List UInt8)×Unit)=>p.1) none (some Kj)
def agc:List (Σ t,b7 cp t):=⟨9,FG⟩::Nz
def FD:b7 cp 10:=fb agc false [.s] (λ(d:List UInt8)=>(d,())) (λ(p:(List UInt8)×Unit)=>p.1) none (some Kj)
def afQ:List (Σ t,b7 cp t):=⟨10,FD⟩::agc
def FE:b7 cp 11:=fb afQ false [.s] (λ(d:List UInt8)=>(d,())) (λ(p:(List UInt8)×Unit)=>p.1) none (some Kj)
def afR:List (Σ t,b7 cp t):=⟨11,FE⟩::afQ
def afp:b7 cp 21:=fb afR false [.i .i32] (λ(d:Int)=>(d,())) (λ(p:Int×Unit)=>p.1) none none
def af2:List (Σ t,b7 cp t):=⟨21,afp⟩::afR
def afr:b7 cp 22:=fb af2 false [.l 3] (λ(d:List Int)=>(d,())) (λ(p:(List Int)×Unit)=>p.1) none none
def af4:List (Σ t,b7 cp t):=⟨22,afr⟩::af2
def afv:b7 cp 24:=fb af4 true [.l 3,.i .i64,.i .i64,.i .i64,.i .i64,.l 3,.i .i64] (λ(d:I.aV)=>(d.Words,d.ak,d.aM,d.aX,d.aW,d.aS,d.Next,())) (λ(p:(List Int)×Int×Int×Int×Int×(List Int)×Int×Unit)=>(⟨p.1,p.2.1,p.2.2.1,p.2.2.2.1,p.2.2.2.2.1,p.2.2.2.2.2.1,p.2.2.2.2.2.2.1⟩:I.aV)) none none
def IW:List (Σ t,b7 cp t):=⟨24,afv⟩::af4
def T4:b7 cp 136:=fb IW true [.s,.i .i64,.s] (λ(d:I.Field)=>(d.Name,d.Kind.Kind,d.Kind.ap,())) (λ(p:(List UInt8)×Int×(List UInt8)×Unit)=>(⟨p.1,⟨p.2.1,p.2.2.1⟩⟩:I.Field)) (some λ(d e:I.Field)=>decide (d=e)) none
def Nw:List (Σ t,b7 cp t):=⟨136,T4⟩::IW
def T3:b7 cp 128:=fb Nw true [.i .i64,.s] (λ(d:I.Kind)=>(d.Kind,d.ap,())) (λ(p:Int×(List UInt8)×Unit)=>(⟨p.1,p.2.1⟩:I.Kind)) (some λ(d e:I.Kind)=>decide (d=e)) none
def Nu:List (Σ t,b7 cp t):=⟨128,T3⟩::Nw
def T5:b7 cp 157:=fb Nu true [.i .i64,.i .i64,.i .i64,.s] (λ(d:I.Handler)=>(d.From,d.To,d.At,d.ap,())) (λ(p:Int×Int×Int×(List UInt8)×Unit)=>(⟨p.1,p.2.1,p.2.2.1,p.2.2.2.1⟩:I.Handler)) (some λ(d e:I.Handler)=>decide (d=e)) none
def Nx:List (Σ t,b7 cp t):=⟨157,T5⟩::Nu
def afj:b7 cp 131:=fb Nx true [.s,.b,.l 128,.i .i64,.s,.i .i64,.i .i64,.s,.l 157] (λ(d:I.Method)=>(d.Name,d.Static,d.cD,d.Returns.Kind,d.Returns.ap,d.hQ,d.hN,d.Code,d.cL,())) (λ(p:(List UInt8)×Bool×(List I.Kind)×Int×(List UInt8)×Int×Int×(List UInt8)×(List I.Handler)×Unit)=>(⟨p.1,p.2.1,p.2.2.1,⟨p.2.2.2.1,p.2.2.2.2.1⟩,p.2.2.2.2.2.1,p.2.2.2.2.2.2.1,p.2.2.2.2.2.2.2.1,p.2.2.2.2.2.2.2.2.1⟩:I.Method)) none none
def Nv:List (Σ t,b7 cp t):=⟨131,afj⟩::Nx
def afl:b7 cp 134:=fb Nv true [.s,.s,.l 136,.l 131] (λ(d:I.ap)=>(d.Name,d.c9,d.Fields,d.bp,())) (λ(p:(List UInt8)×(List UInt8)×(List I.Field)×(List I.Method)×Unit)=>(⟨p.1,p.2.1,p.2.2.1,p.2.2.2.1⟩:I.ap)) none none
def afY:List (Σ t,b7 cp t):=⟨134,afl⟩::Nv
def afw:b7 cp 25:=fb afY false [.l 134] (λ(d:List I.ap)=>(d,())) (λ(p:(List I.ap)×Unit)=>p.1) none none
def Ug:List (Σ t,b7 cp t):=⟨25,afw⟩::afY
def afg:b7 cp 124:=fb Ug false [.l 136] (λ(d:List I.Field)=>(d,())) (λ(p:(List I.Field)×Unit)=>p.1) none none
def afU:List (Σ t,b7 cp t):=⟨124,afg⟩::Ug
def afx:b7 cp 26:=fb afU false [.l 124] (λ(d:List (List I.Field))=>(d,())) (λ(p:(List (List I.Field))×Unit)=>p.1) none none
def Uh:List (Σ t,b7 cp t):=⟨26,afx⟩::afU
def afe:b7 cp 120:=fb Uh false [.l 9] (λ(d:List (List UInt8))=>(d,())) (λ(p:(List (List UInt8))×Unit)=>p.1) none none
def afS:List (Σ t,b7 cp t):=⟨120,afe⟩::Uh
def afy:b7 cp 27:=fb afS false [.l 120] (λ(d:List (List (List UInt8)))=>(d,())) (λ(p:(List (List (List UInt8)))×Unit)=>p.1) none none
def Ny:List (Σ t,b7 cp t):=⟨27,afy⟩::afS
def T6:b7 cp 166:=fb Ny true [.i .i64,.i .i64] (λ(d:I.Target)=>(d.ap,d.Method,())) (λ(p:Int×Int×Unit)=>(⟨p.1,p.2.1⟩:I.Target)) (some λ(d e:I.Target)=>decide (d=e)) none
def Uf:List (Σ t,b7 cp t):=⟨166,T6⟩::Ny
def aff:b7 cp 121:=fb Uf false [.l 166] (λ(d:List I.Target)=>(d,())) (λ(p:(List I.Target)×Unit)=>p.1) none none
def afT:List (Σ t,b7 cp t):=⟨121,aff⟩::Uf
def afz:b7 cp 28:=fb afT false [.l 121] (λ(d:List (List I.Target))=>(d,())) (λ(p:(List (List I.Target))×Unit)=>p.1) none none
def af8:List (Σ t,b7 cp t):=⟨28,afz⟩::afT
def afA:b7 cp 30:=fb af8 true [.l 134,.l 3,.l 124,.l 120,.l 121] (λ(d:I.aO)=>(d.a6,d.aY,d.Fields,d.Names,d.aZ,())) (λ(p:(List I.ap)×(List Int)×(List (List I.Field))×(List (List (List UInt8)))×(List (List I.Target))×Unit)=>(⟨p.1,p.2.1,p.2.2.1,p.2.2.2.1,p.2.2.2.2.1⟩:I.aO)) none none
def af_:List (Σ t,b7 cp t):=⟨30,afA⟩::af8
def afB:b7 cp 31:=fb af_ false [.i .i64] (λ(d:Int)=>(d,())) (λ(p:Int×Unit)=>p.1) none (some uC)
def af':List (Σ t,b7 cp t):=⟨31,afB⟩::af_
def afC:b7 cp 69:=fb af' true [.l 134,.l 3,.l 124,.l 120,.l 121] (λ(d:I.b')=>(d.K.a6,d.K.aY,d.K.Fields,d.K.Names,d.K.aZ,())) (λ(p:(List I.ap)×(List Int)×(List (List I.Field))×(List (List (List UInt8)))×(List (List I.Target))×Unit)=>(⟨⟨p.1,p.2.1,p.2.2.1,p.2.2.2.1,p.2.2.2.2.1⟩⟩:I.b')) none none
def agb:List (Σ t,b7 cp t):=⟨69,afC⟩::af'
def afh:b7 cp 126:=fb agb false [.l 128] (λ(d:List I.Kind)=>(d,())) (λ(p:(List I.Kind)×Unit)=>p.1) none none
def afV:List (Σ t,b7 cp t):=⟨126,afh⟩::agb
def afi:b7 cp 129:=fb afV false [.l 157] (λ(d:List I.Handler)=>(d,())) (λ(p:(List I.Handler)×Unit)=>p.1) none none
def afW:List (Σ t,b7 cp t):=⟨129,afi⟩::afV
def afk:b7 cp 132:=fb afW false [.l 131] (λ(d:List I.Method)=>(d,())) (λ(p:(List I.Method)×Unit)=>p.1) none none
def afX:List (Σ t,b7 cp t):=⟨132,afk⟩::afW
def afm:b7 cp 192:=fb afX false [.i .i64] (λ(d:Int)=>(d,())) (λ(p:Int×Unit)=>p.1) none (some uC)
def afZ:List (Σ t,b7 cp t):=⟨192,afm⟩::afX
def afn:b7 cp 202:=fb afZ false [.l 22] (λ(d:List (List Int))=>(d,())) (λ(p:(List (List Int))×Unit)=>p.1) none none
def af0:List (Σ t,b7 cp t):=⟨202,afn⟩::afZ
def afo:b7 cp 204:=fb af0 false [.l 5] (λ(d:List UInt8)=>(d,())) (λ(p:(List UInt8)×Unit)=>p.1) none none
def af1:List (Σ t,b7 cp t):=⟨204,afo⟩::af0
def afq:b7 cp 219:=fb af1 false [.y] (λ(d:UInt8)=>(d,())) (λ(p:UInt8×Unit)=>p.1) none none
def af3:List (Σ t,b7 cp t):=⟨219,afq⟩::af1
def afs:b7 cp 220:=fb af3 false [.y] (λ(d:UInt8)=>(d,())) (λ(p:UInt8×Unit)=>p.1) none none
def af5:List (Σ t,b7 cp t):=⟨220,afs⟩::af3
def aft:b7 cp 223:=fb af5 false [.i .i32] (λ(d:Int)=>(d,())) (λ(p:Int×Unit)=>p.1) none none
def af6:List (Σ t,b7 cp t):=⟨223,aft⟩::af5
def afu:b7 cp 224:=fb af6 false [.i .i32] (λ(d:Int)=>(d,())) (λ(p:Int×Unit)=>p.1) none none
def af7:List (Σ t,b7 cp t):=⟨224,afu⟩::af6
def afd:b7 cp 109:=⟨(abe (fM af7 3).ty:dj (cp 109)),false,λ d=>[.x 3 (d:cp 3) 0],λ l=>(Xu (El:=cp) 3 l:Option (cp 109)),none,none⟩
def aw6:List (Σ t,b7 cp t):=⟨109,afd⟩::af7
def bs:bT:=⟨cp,aw6⟩
theorem avM:eH bs 109 afd:=⟨λ d F w xs h=>avt (T:=bs) (s:=3) h,λ l d h F w ρ bl xs a=>aBz (T:=bs) (s:=3) h a,(λ K h=>by cases h),λ h d=>rfl⟩
theorem awi:eH bs 2 ao:=fi trivial (λ _=>rfl) (λ h=>by rfl) (λ K h F w xs k a=>by cases h;obtain⟨v,vs,rfl,b,rfl⟩:=a;exact b)
theorem awl:eH bs 3 aT:=fi trivial (λ _=>rfl) (λ h=>by rfl) (λ K h F w xs k a=>by cases h;obtain⟨v,vs,rfl,b,rfl⟩:=a;exact b)
theorem awn:eH bs 4 bQ:=fi trivial (λ _=>rfl) (λ h=>by rfl) (λ K h=>by cases h)
theorem awo:eH bs 5 dw:=fi trivial (λ _=>rfl) (λ h=>by rfl) (λ K h=>by cases h)
theorem awq:eH bs 6 eR:=fi trivial (λ _=>rfl) (λ h=>by rfl) (λ K h=>by cases h)
theorem awr:eH bs 9 FG:=fi trivial (λ _=>rfl) (λ h=>by rfl) (λ K h F w xs k a=>by cases h;obtain⟨v,vs,rfl,b,rfl⟩:=a;exact b)
theorem avN:eH bs 10 FD:=fi trivial (λ _=>rfl) (λ h=>by rfl) (λ K h F w xs k a=>by cases h;obtain⟨v,vs,rfl,b,rfl⟩:=a;exact b)
theorem avO:eH bs 11 FE:=fi trivial (λ _=>rfl) (λ h=>by rfl) (λ K h F w xs k a=>by cases h;obtain⟨v,vs,rfl,b,rfl⟩:=a;exact b)
theorem av_:eH bs 21 afp:=fi trivial (λ _=>rfl) (λ h=>by rfl) (λ K h=>by cases h)
theorem awc:eH bs 22 afr:=fi ⟨by kernel_rfl,trivial⟩ (λ _=>rfl) (λ h=>by rfl) (λ K h=>by cases h)
theorem awd:eH bs 24 afv:=fi ⟨by kernel_rfl,by kernel_rfl,trivial⟩ (λ _=>rfl) (λ h=>by cases h) (λ K h=>by cases h)
theorem av0:eH bs 136 T4:=fi trivial (λ _=>rfl) (λ h=>by cases h) (λ K h=>by cases h)
theorem avU:eH bs 128 T3:=fi trivial (λ _=>rfl) (λ h=>by cases h) (λ K h=>by cases h)
theorem av2:eH bs 157 T5:=fi trivial (λ _=>rfl) (λ h=>by cases h) (λ K h=>by cases h)
theorem avX:eH bs 131 afj:=fi ⟨by kernel_rfl,by kernel_rfl,trivial⟩ (λ _=>rfl) (λ h=>by cases h) (λ K h=>by cases h)
theorem avZ:eH bs 134 afl:=fi ⟨by kernel_rfl,by kernel_rfl,trivial⟩ (λ _=>rfl) (λ h=>by cases h) (λ K h=>by cases h)
theorem awe:eH bs 25 afw:=fi ⟨by kernel_rfl,trivial⟩ (λ _=>rfl) (λ h=>by rfl) (λ K h=>by cases h)
theorem avS:eH bs 124 afg:=fi ⟨by kernel_rfl,trivial⟩ (λ _=>rfl) (λ h=>by rfl) (λ K h=>by cases h)
theorem awf:eH bs 26 afx:=fi ⟨by kernel_rfl,trivial⟩ (λ _=>rfl) (λ h=>by rfl) (λ K h=>by cases h)
theorem avQ:eH bs 120 afe:=fi ⟨by kernel_rfl,trivial⟩ (λ _=>rfl) (λ h=>by rfl) (λ K h=>by cases h)
theorem awg:eH bs 27 afy:=fi ⟨by kernel_rfl,trivial⟩ (λ _=>rfl) (λ h=>by rfl) (λ K h=>by cases h)
theorem av4:eH bs 166 T6:=fi trivial (λ _=>rfl) (λ h=>by cases h) (λ K h=>by cases h)
theorem avR:eH bs 121 aff:=fi ⟨by kernel_rfl,trivial⟩ (λ _=>rfl) (λ h=>by rfl) (λ K h=>by cases h)
theorem awh:eH bs 28 afz:=fi ⟨by kernel_rfl,trivial⟩ (λ _=>rfl) (λ h=>by rfl) (λ K h=>by cases h)
theorem awj:eH bs 30 afA:=fi ⟨by kernel_rfl,by kernel_rfl,by kernel_rfl,by kernel_rfl,by kernel_rfl,trivial⟩ (λ _=>rfl) (λ h=>by cases h) (λ K h=>by cases h)
theorem awk:eH bs 31 afB:=fi trivial (λ _=>rfl) (λ h=>by rfl) (λ K h F w xs k a=>by cases h;obtain⟨v,vs,rfl,b,rfl⟩:=a;exact b)
theorem awp:eH bs 69 afC:=fi ⟨by kernel_rfl,by kernel_rfl,by kernel_rfl,by kernel_rfl,by kernel_rfl,trivial⟩ (λ _=>rfl) (λ h=>by cases h) (λ K h=>by cases h)
theorem avT:eH bs 126 afh:=fi ⟨by kernel_rfl,trivial⟩ (λ _=>rfl) (λ h=>by rfl) (λ K h=>by cases h)
theorem avV:eH bs 129 afi:=fi ⟨by kernel_rfl,trivial⟩ (λ _=>rfl) (λ h=>by rfl) (λ K h=>by cases h)
theorem avY:eH bs 132 afk:=fi ⟨by kernel_rfl,trivial⟩ (λ _=>rfl) (λ h=>by rfl) (λ K h=>by cases h)
theorem av6:eH bs 192 afm:=fi trivial (λ _=>rfl) (λ h=>by rfl) (λ K h F w xs k a=>by cases h;obtain⟨v,vs,rfl,b,rfl⟩:=a;exact b)
theorem av7:eH bs 202 afn:=fi ⟨by kernel_rfl,trivial⟩ (λ _=>rfl) (λ h=>by rfl) (λ K h=>by cases h)
theorem av8:eH bs 204 afo:=fi ⟨by kernel_rfl,trivial⟩ (λ _=>rfl) (λ h=>by rfl) (λ K h=>by cases h)
theorem av9:eH bs 219 afq:=fi trivial (λ _=>rfl) (λ h=>by rfl) (λ K h=>by cases h)
theorem av':eH bs 220 afs:=fi trivial (λ _=>rfl) (λ h=>by rfl) (λ K h=>by cases h)
theorem awa:eH bs 223 aft:=fi trivial (λ _=>rfl) (λ h=>by rfl) (λ K h=>by cases h)
theorem awb:eH bs 224 afu:=fi trivial (λ _=>rfl) (λ h=>by rfl) (λ K h=>by cases h)
theorem amq:yT bs:=aJh ⟨avM,awb,awa,av',av9,av8,av7,av6,avY,avV,avT,awp,awk,awj,awh,avR,av4,awg,avQ,awf,avS,awe,avZ,avX,av2,avU,av0,awd,awc,av_,avO,avN,awr,awq,awo,awn,awl,awi,trivial⟩
end Go.Proofs.YteeliipnilghaaaGreat
namespace Go.Proofs.YteeliipnilghaaaGreat
open Go Go.RowKit ay I bc
noncomputable def aG:Env:=⟨Tryz.prog,bs,[],false,(ed 174).drop 2,5,λ l=>l⟩
noncomputable def lX:Env:=⟨Tryz.prog,bs,[],true,(ed 174).drop 2,5,λ l=>l⟩
noncomputable def jg:cW aG:=⟨[],[]⟩
theorem aFe(a7:di aG)(h:jg.Ok):(jg.f 37 ((mw aG.T 3 8).run aG)).Ok:=h.K2 a7 rfl rfl (by kernel_rfl) (λ a c=>by kernel_rfl) λ d l=>by kernel_rfl
noncomputable def BA:cW aG:=jg.f 37 ((mw aG.T 3 8).run aG)
theorem aFf(a7:di aG)(h:BA.Ok):(BA.f 108 ((mw aG.T 136 40).run aG)).Ok:=h.K2 a7 rfl rfl (by kernel_rfl) (λ a c=>by kernel_rfl) λ d l=>by kernel_rfl
noncomputable def rM:cW aG:=BA.f 108 ((mw aG.T 136 40).run aG)
theorem aFg(a7:di aG)(h:rM.Ok):(rM.f 109 ((mw aG.T 131 128).run aG)).Ok:=h.K2 a7 rfl rfl (by kernel_rfl) (λ a c=>by kernel_rfl) λ d l=>by kernel_rfl
noncomputable def SG:cW aG:=rM.f 109 ((mw aG.T 131 128).run aG)
theorem aFh(a7:di aG)(h:SG.Ok):(SG.f 110 ((mw aG.T 128 24).run aG)).Ok:=h.K2 a7 rfl rfl (by kernel_rfl) (λ a c=>by kernel_rfl) λ d l=>by kernel_rfl
noncomputable def SH:cW aG:=SG.f 110 ((mw aG.T 128 24).run aG)
theorem aFi(a7:di aG)(h:SH.Ok):(SH.f 111 ((mw aG.T 157 40).run aG)).Ok:=h.K2 a7 rfl rfl (by kernel_rfl) (λ a c=>by kernel_rfl) λ d l=>by kernel_rfl
noncomputable def apX:cW aG:=SH.f 111 ((mw aG.T 157 40).run aG)
end Go.Proofs.YteeliipnilghaaaGreat
namespace Go.Proofs.YteeliipnilghaaaGreat
open Go Go.RowKit ay I bc
theorem aFP:BD Tryz.prog bs 136 T4:=by
 intro f ad F w xs ys d e i hy o a x y t' b c g h w';obtain rfl:=eJ ad;obtain⟨_,_,rfl,rfl,_,_,rfl,rfl,_,_,rfl,rfl,rfl⟩:=i;obtain⟨_,_,rfl,rfl,_,_,rfl,rfl,_,_,rfl,rfl,rfl⟩:=hy;cases b
 ·exact aw1 c g h
 ·exact awX c g h
theorem aFO:BD Tryz.prog bs 128 T3:=by
 intro f ad F w xs ys d e i hy o a x y t' b c g h w';obtain rfl:=eJ ad;obtain⟨_,_,rfl,rfl,_,_,rfl,rfl,rfl⟩:=i;obtain⟨_,_,rfl,rfl,_,_,rfl,rfl,rfl⟩:=hy;cases b
 ·exact aw3 c g h
 ·exact awZ c g h
theorem aFQ:BD Tryz.prog bs 157 T5:=by
 intro f ad F w xs ys d e i hy o a x y t' b c g h w';obtain rfl:=eJ ad;obtain⟨_,_,rfl,rfl,_,_,rfl,rfl,_,_,rfl,rfl,_,_,rfl,rfl,rfl⟩:=i;obtain⟨_,_,rfl,rfl,_,_,rfl,rfl,_,_,rfl,rfl,_,_,rfl,rfl,rfl⟩:=hy;cases b
 ·exact aw2 c g h
 ·exact awY c g h
theorem aFR:BD Tryz.prog bs 166 T6:=by
 intro f ad F w xs ys d e i hy o a x y t' b c g h w';obtain rfl:=eJ ad;obtain⟨_,_,rfl,rfl,_,_,rfl,rfl,rfl⟩:=i;obtain⟨_,_,rfl,rfl,_,_,rfl,rfl,rfl⟩:=hy;cases b
 ·exact aw4 c g h
 ·exact aw0 c g h
theorem afN:Ud Tryz.prog bs bs.es:=⟨fC rfl,fC rfl,fC rfl,fC rfl,fC rfl,fC rfl,fC rfl,fC rfl,fC rfl,fC rfl,fC rfl,fC rfl,fC rfl,fC rfl,fC rfl,fC rfl,aFR,fC rfl,fC rfl,fC rfl,fC rfl,fC rfl,fC rfl,fC rfl,aFQ,aFO,aFP,fC rfl,fC rfl,fC rfl,fC rfl,fC rfl,fC rfl,fC rfl,fC rfl,fC rfl,fC rfl,fC rfl,trivial⟩
theorem agM:PU Tryz.prog aG.cf=true:=by kernel_rfl
theorem ad9(F:Nat->Prop)(w:World)(l:List UInt8)(xs:List Value)(h:dM Q1 F w xs l):dM (bs.ty 5) F w xs l:=by
 refine Qj (A:=Q1) (B:=bs.ty 5) (λ cs d h=>?_) h;change fh (λ t=>(fM Ui t).ty) F w [.y] cs (d,());exact⟨_,_,h,rfl,rfl⟩
theorem jV:di aG:=⟨amq,λ f ad=>akc (YR agM ad),by kernel_rfl,λ l=>rfl,ad9,λ t=>Uc afN⟩
theorem Nq:di lX:=⟨amq,λ f ad=>akc (YR agM ad),by kernel_rfl,λ l=>rfl,ad9,λ t=>Uc afN⟩
end Go.Proofs.YteeliipnilghaaaGreat
namespace I
def fX(a:Int)(b:Int)(Ky:Int):Option (Bool):=
 some ((decide (b<=a))&&(decide (a<=Ky)))
def nf(a:Int)(b:Int)(Ky:Int):Option (Bool):=
 some ((decide (b<=a))&&(decide (a<=Ky)))
def OJ(a:Int):Option (Bool):=
 some ((decide (a=3))||(decide (a=4)))
def Dg(b:List UInt8):Nat->Int->Option (Way (Bool) (Unit))
 |0,_=>none
 |bS+1,c=>
  cond (decide (c<(b.length:Int))) ((idx b c).bind λ a=>
  cond (((((decide ((a.toNat:Int)<97))||(decide (122<(a.toNat:Int))))&&((decide ((a.toNat:Int)<65))||(decide (90<(a.toNat:Int)))))&&((decide ((a.toNat:Int)<48))||(decide (57<(a.toNat:Int)))))&&(!decide ((a.toNat:Int)=95))) (some (.out false)) (Dg b bS (ax (c+1)))) (some (.go ()))
def oC(F:Nat)(s_:List UInt8):Option (Bool):=
 (bytesOf s_).bind λ a=>
 cm (α:=Unit) (Dg a F 0) λ(_:Unit)=>
 some ((!decide (s_=[]))&&(decide ((s_.length:Int)<=20)))
def wW(F:Nat)(a:Kind):Option (Bool):=
 (OJ a.Kind).bind λ b=>
 cond (b) ((oC F a.ap).bind λ c=>
 some c) (some (((decide (a.Kind=1))||(decide (a.Kind=2)))&&(decide (a.ap=[]))))
def tN(s_:List UInt8):Nat->Int->Option (Way (Bool) (Unit))
 |0,_=>none
 |bS+1,Yu=>
  cond (decide (Yu<(s_.length:Int))) ((idx s_ Yu).bind λ a=>
  cond (!(((((decide (97<=(a.toNat:Int)))&&(decide ((a.toNat:Int)<=122)))||((decide (65<=(a.toNat:Int)))&&(decide ((a.toNat:Int)<=90))))||((decide (48<=(a.toNat:Int)))&&(decide ((a.toNat:Int)<=57))))||(decide ((a.toNat:Int)=95)))) (some (.out false)) (tN s_ bS (ax (Yu+1)))) (some (.go ()))
def o'(F:Nat)(s_:List UInt8):Option (Bool):=
 cm (α:=Unit) (tN s_ F 0) λ(_:Unit)=>
 some ((decide (1<=(s_.length:Int)))&&(decide ((s_.length:Int)<=20)))
def vL(F:Nat)(a:Kind):Option (Bool):=
 cond ((decide (a.Kind=1))||(decide (a.Kind=2))) (some (decide (a.ap=[]))) (cond ((decide (a.Kind=3))||(decide (a.Kind=4))) ((o' F a.ap).bind λ b=>
 some b) (some false))
end I
namespace I
def zC(F:Nat)(b:Method):Nat->Int->Option (Way (Int) (Unit))
 |0,_=>none
 |bS+1,c=>
  cond (decide (c<(b.cD.length:Int))) ((idx b.cD c).bind λ a=>
  (wW F (⟨a.Kind,a.ap⟩:Kind)).bind λ d=>
  cond (!d) (some (.out 7)) (zC F b bS (ax (c+1)))) (some (.go ()))
def Dk(F:Nat)(b:Method):Nat->Int->Option (Way (Int) (Unit))
 |0,_=>none
 |eI+1,c=>
  cond (decide (c<(b.cL.length:Int))) ((idx b.cL c).bind λ a=>
  (oC F a.ap).bind λ f=>
  cond (!f) (some (.out 1)) ((nf a.From 0 200).bind λ g=>
  cond (!g) (some (.out 3)) ((nf a.To 0 200).bind λ d=>
  cond (!d) (some (.out 3)) ((nf a.At 0 200).bind λ e=>
  cond (!e) (some (.out 3)) (Dk F b eI (ax (c+1))))))) (some (.go ()))
def sv(F:Nat)(b:Method):Nat->Int->Option (Way (Int) (Unit))
 |0,_=>none
 |hA+1,mn=>
  cond (decide (mn<(b.cL.length:Int))) ((idx b.cL mn).bind λ a=>
  (oC F a.ap).bind λ c=>
  cond (!c) (some (.out 1)) ((nf a.From 0 200).bind λ d=>
  cond (!d) (some (.out 3)) ((nf a.To 0 200).bind λ e=>
  cond (!e) (some (.out 3)) ((nf a.At 0 200).bind λ f=>
  cond (!f) (some (.out 3)) (sv F b hA (ax (mn+1))))))) (some (.go ()))
def Dj(F:Nat)(a:Method):Option (Int):=
 (oC F a.Name).bind λ c=>
 cond (!c) (some 1) (cond (((decide (4<(a.cD.length:Int)))||(decide (200<(a.Code.length:Int))))||(decide (4<(a.cL.length:Int)))) (some 2) ((nf a.hQ 0 10).bind λ d=>
 cond (!d) (some 3) ((nf a.hN 0 10).bind λ e=>
 cond (!e) (some 3) (cm (α:=Unit) (zC F a F 0) λ(_:Unit)=>
 cond (!decide ((⟨a.Returns.Kind,a.Returns.ap⟩:Kind)=(⟨0,[]⟩:Kind))) ((wW F (⟨a.Returns.Kind,a.Returns.ap⟩:Kind)).bind λ b=>
 cond (!b) (some 7) (cm (α:=Unit) (Dk F a F 0) λ(_:Unit)=>
 some 0)) (cm (α:=Unit) (sv F a F 0) λ(_:Unit)=>
 some 0)))))
def Dh(F:Nat)(c_:ap):Nat->Int->Option (Way (Int) (Unit))
 |0,_=>none
 |bS+1,b=>
  cond (decide (b<(c_.Fields.length:Int))) ((idx c_.Fields b).bind λ a=>
  (oC F a.Name).bind λ c=>
  cond (!c) (some (.out 1)) ((wW F (⟨a.Kind.Kind,a.Kind.ap⟩:Kind)).bind λ d=>
  cond (!d) (some (.out 7)) (Dh F c_ bS (ax (b+1))))) (some (.go ()))
def Di(F:Nat)(c_:ap):Nat->Int->Option (Way (Int) (Unit))
 |0,_=>none
 |eI+1,b=>
  cond (decide (b<(c_.bp.length:Int))) ((idx c_.bp b).bind λ a=>
  (Dj F (⟨a.Name,a.Static,a.cD,(⟨a.Returns.Kind,a.Returns.ap⟩:Kind),a.hQ,a.hN,a.Code,a.cL⟩:Method)).bind λ c=>
  cond (!decide (c=0)) (some (.out c)) (Di F c_ eI (ax (b+1)))) (some (.go ()))
def wV(F:Nat)(c_:ap):Nat->Int->Option (Way (Int) (Unit))
 |0,_=>none
 |hA+1,b=>
  cond (decide (b<(c_.Fields.length:Int))) ((idx c_.Fields b).bind λ a=>
  (oC F a.Name).bind λ c=>
  cond (!c) (some (.out 1)) ((wW F (⟨a.Kind.Kind,a.Kind.ap⟩:Kind)).bind λ d=>
  cond (!d) (some (.out 7)) (wV F c_ hA (ax (b+1))))) (some (.go ()))
def su(F:Nat)(c_:ap):Nat->Int->Option (Way (Int) (Unit))
 |0,_=>none
 |mh+1,c=>
  cond (decide (c<(c_.bp.length:Int))) ((idx c_.bp c).bind λ a=>
  (Dj F (⟨a.Name,a.Static,a.cD,(⟨a.Returns.Kind,a.Returns.ap⟩:Kind),a.hQ,a.hN,a.Code,a.cL⟩:Method)).bind λ b=>
  cond (!decide (b=0)) (some (.out b)) (su F c_ mh (ax (c+1)))) (some (.go ()))
def Kb(F:Nat)(c_:ap):Option (Int):=
 (oC F c_.Name).bind λ a=>
 cond (!a) (some 1) (cond (!decide (c_.c9=[])) ((oC F c_.c9).bind λ b=>
 cond (!b) (some 1) (cond ((decide (6<(c_.Fields.length:Int)))||(decide (8<(c_.bp.length:Int)))) (some 2) (cm (α:=Unit) (Dh F c_ F 0) λ(_:Unit)=>
 cm (α:=Unit) (Di F c_ F 0) λ(_:Unit)=>
 some 0))) (cond ((decide (6<(c_.Fields.length:Int)))||(decide (8<(c_.bp.length:Int)))) (some 2) (cm (α:=Unit) (wV F c_ F 0) λ(_:Unit)=>
 cm (α:=Unit) (su F c_ F 0) λ(_:Unit)=>
 some 0)))
def zB(F:Nat)(c:List ap):Nat->Int->Option (Way (Int) (Unit))
 |0,_=>none
 |bS+1,d=>
  cond (decide (d<(c.length:Int))) ((idx c d).bind λ b=>
  (Kb F (⟨b.Name,b.c9,b.Fields,b.bp⟩:ap)).bind λ a=>
  cond (!decide (a=0)) (some (.out a)) (zB F c bS (ax (d+1)))) (some (.go ()))
def Ka(F:Nat)(a:List ap):Option (Int):=
 cond (decide (10<(a.length:Int))) (some 2) (cm (α:=Unit) (zB F a F 0) λ(_:Unit)=>
 some 0)
def B0(F:Nat)(a:Method):Nat->Int->Option (Way (Int) (Unit))
 |0,_=>none
 |bS+1,b=>
  cond (decide (b<(a.cD.length:Int))) ((idx a.cD b).bind λ c=>
  (vL F c).bind λ d=>
  cond (!d) (some (.out 7)) (B0 F a bS (ax (b+1)))) (some (.go ()))
def B1(F:Nat)(b:Method):Nat->Int->Option (Way (Int) (Unit))
 |0,_=>none
 |eI+1,c=>
  cond (decide (c<(b.cL.length:Int))) ((idx b.cL c).bind λ a=>
  (o' F a.ap).bind λ d=>
  cond (!d) (some (.out 1)) ((fX a.From 0 200).bind λ e=>
  cond (!e) (some (.out 3)) ((fX a.To 0 200).bind λ f=>
  cond (!f) (some (.out 3)) ((fX a.At 0 200).bind λ g=>
  cond (!g) (some (.out 3)) (B1 F b eI (ax (c+1))))))) (some (.go ()))
def BZ(F:Nat)(a:Method):Option (Int):=
 (o' F a.Name).bind λ c=>
 cond (!c) (some 1) (cond (((decide (4<(a.cD.length:Int)))||(decide (200<(a.Code.length:Int))))||(decide (4<(a.cL.length:Int)))) (some 2) ((fX a.hQ 0 10).bind λ d=>
 cond (!d) (some 3) ((fX a.hN 0 10).bind λ e=>
 cond (!e) (some 3) (cm (α:=Unit) (B0 F a F 0) λ(_:Unit)=>
 (vL F (⟨a.Returns.Kind,a.Returns.ap⟩:Kind)).bind λ b=>
 cond ((!b)&&((!decide (a.Returns.Kind=0))||(!decide (a.Returns.ap=[])))) (some 7) (cm (α:=Unit) (B1 F a F 0) λ(_:Unit)=>
 some 0)))))
def E'(F:Nat)(b:ap):Nat->Int->Option (Way (Int) (Unit))
 |0,_=>none
 |eI+1,c=>
  cond (decide (c<(b.Fields.length:Int))) ((idx b.Fields c).bind λ d=>
  (o' F d.Name).bind λ e=>
  cond (!e) (some (.out 1)) ((idx b.Fields c).bind λ a=>
  (vL F (⟨a.Kind.Kind,a.Kind.ap⟩:Kind)).bind λ f=>
  cond (!f) (some (.out 7)) (E' F b eI (ax (c+1))))) (some (.go ()))
def Fa(F:Nat)(b:ap):Nat->Int->Option (Way (Int) (Unit))
 |0,_=>none
 |hA+1,c=>
  cond (decide (c<(b.bp.length:Int))) ((idx b.bp c).bind λ d=>
  (BZ F d).bind λ a=>
  cond (!decide (a=0)) (some (.out a)) (Fa F b hA (ax (c+1)))) (some (.go ()))
def yD(F:Nat)(b:ap):Nat->Int->Option (Way (Int) (Unit))
 |0,_=>none
 |mh+1,c=>
  cond (decide (c<(b.Fields.length:Int))) ((idx b.Fields c).bind λ d=>
  (o' F d.Name).bind λ e=>
  cond (!e) (some (.out 1)) ((idx b.Fields c).bind λ a=>
  (vL F (⟨a.Kind.Kind,a.Kind.ap⟩:Kind)).bind λ f=>
  cond (!f) (some (.out 7)) (yD F b mh (ax (c+1))))) (some (.go ()))
def yE(F:Nat)(b:ap):Nat->Int->Option (Way (Int) (Unit))
 |0,_=>none
 |uB+1,c=>
  cond (decide (c<(b.bp.length:Int))) ((idx b.bp c).bind λ d=>
  (BZ F d).bind λ a=>
  cond (!decide (a=0)) (some (.out a)) (yE F b uB (ax (c+1)))) (some (.go ()))
def BJ(F:Nat)(b:List ap):Nat->Int->Option (Way (Int) (Unit))
 |0,_=>none
 |bS+1,c=>
  cond (decide (c<(b.length:Int))) (dd (α:=Unit) ((idx b c).bind λ a=>
  (o' F a.Name).bind λ d=>
  cond (!d) (some (.out 1)) (cond (!decide (a.c9=[])) ((o' F a.c9).bind λ e=>
  cond (!e) (some (.out 1)) (cond ((decide (6<(a.Fields.length:Int)))||(decide (8<(a.bp.length:Int)))) (some (.out 2)) (dd (α:=Unit) (E' F a F 0) λ(_:Unit)=>
  dd (α:=Unit) (Fa F a F 0) λ(_:Unit)=>
  some (.go ())))) (cond ((decide (6<(a.Fields.length:Int)))||(decide (8<(a.bp.length:Int)))) (some (.out 2)) (dd (α:=Unit) (yD F a F 0) λ(_:Unit)=>
  dd (α:=Unit) (yE F a F 0) λ(_:Unit)=>
  some (.go ()))))) λ(_:Unit)=>
  BJ F b bS (ax (c+1))) (some (.go ()))
def Ik(F:Nat)(a:List ap):Option (Int):=
 cond (decide (10<(a.length:Int))) (some 2) (cm (α:=Unit) (BJ F a F 0) λ(_:Unit)=>
 some 0)
end I
namespace I
def qu(a:List Kind)(b:List Kind):Nat->Int->Option (Way (Bool) (Unit))
 |0,_=>none
 |bS+1,dg=>
  cond (decide (dg<(a.length:Int))) ((idx a dg).bind λ c=>
  (idx b dg).bind λ d=>
  cond (!decide (c=d)) (some (.out false)) (qu a b bS (ax (dg+1)))) (some (.go ()))
def vN(F:Nat)(a:List Kind)(b:List Kind):Option (Bool):=
 cond (!decide ((a.length:Int)=(b.length:Int))) (some false) (cm (α:=Unit) (qu a b F 0) λ(_:Unit)=>
 some true)
def Cd(a:List Field)(b:List Field):Nat->Int->Option (Way (Bool) (Unit))
 |0,_=>none
 |bS+1,dg=>
  cond (decide (dg<(a.length:Int))) ((idx a dg).bind λ c=>
  (idx b dg).bind λ d=>
  cond (!decide (c=d)) (some (.out false)) (Cd a b bS (ax (dg+1)))) (some (.go ()))
def Fh(F:Nat)(a:List Field)(b:List Field):Option (Bool):=
 cond (!decide ((a.length:Int)=(b.length:Int))) (some false) (cm (α:=Unit) (Cd a b F 0) λ(_:Unit)=>
 some true)
def Cc(b:Method)(e:Method):Nat->Int->Option (Way (Bool) (Unit))
 |0,_=>none
 |hA+1,a=>
  cond (decide (a<(b.cL.length:Int))) ((idx b.cL a).bind λ c=>
  (idx e.cL a).bind λ d=>
  cond (!decide (c=d)) (some (.out false)) (Cc b e hA (ax (a+1)))) (some (.go ()))
def Cb(F:Nat)(d:ap)(f:ap):Nat->Int->Option (Way (Bool) (Unit))
 |0,_=>none
 |eI+1,c=>
  cond (decide (c<(d.bp.length:Int))) (dd (α:=Unit) ((idx d.bp c).bind λ a=>
  (idx f.bp c).bind λ b=>
  cond ((!decide (a.Name=b.Name))||(!(a.Static==b.Static))) (some (.out false)) ((vN F a.cD b.cD).bind λ e=>
  cond (!e) (some (.out false)) (cond (((((!decide ((⟨a.Returns.Kind,a.Returns.ap⟩:Kind)=(⟨b.Returns.Kind,b.Returns.ap⟩:Kind)))||(!decide (a.hQ=b.hQ)))||(!decide (a.hN=b.hN)))||(!decide (a.Code=b.Code)))||(!decide ((a.cL.length:Int)=(b.cL.length:Int)))) (some (.out false)) (dd (α:=Unit) (Cc a b F 0) λ(_:Unit)=>
  some (.go ()))))) λ(_:Unit)=>
  Cb F d f eI (ax (c+1))) (some (.go ()))
def Ca(F:Nat)(d:List ap)(f:List ap):Nat->Int->Option (Way (Bool) (Unit))
 |0,_=>none
 |bS+1,c=>
  cond (decide (c<(d.length:Int))) (dd (α:=Unit) ((idx d c).bind λ a=>
  (idx f c).bind λ b=>
  cond ((!decide (a.Name=b.Name))||(!decide (a.c9=b.c9))) (some (.out false)) ((Fh F a.Fields b.Fields).bind λ e=>
  cond ((!e)||(!decide ((a.bp.length:Int)=(b.bp.length:Int)))) (some (.out false)) (dd (α:=Unit) (Cb F a b F 0) λ(_:Unit)=>
  some (.go ())))) λ(_:Unit)=>
  Ca F d f bS (ax (c+1))) (some (.go ()))
def Fg(F:Nat)(a:List ap)(b:List ap):Option (Bool):=
 cond (!decide ((a.length:Int)=(b.length:Int))) (some false) (cm (α:=Unit) (Ca F a b F 0) λ(_:Unit)=>
 some true)
def yN(b:aO)(e:aO):Nat->Int->Option (Way (Bool) (Unit))
 |0,_=>none
 |bS+1,a=>
  cond (decide (a<(b.aY.length:Int))) ((idx b.aY a).bind λ c=>
  (idx e.aY a).bind λ d=>
  cond (!decide (c=d)) (some (.out false)) (yN b e bS (ax (a+1)))) (some (.go ()))
def Cf(F:Nat)(b:aO)(f:aO):Nat->Int->Option (Way (Bool) (Unit))
 |0,_=>none
 |eI+1,a=>
  cond (decide (a<(b.Fields.length:Int))) ((idx b.Fields a).bind λ c=>
  (idx f.Fields a).bind λ d=>
  (Fh F c d).bind λ e=>
  cond (!e) (some (.out false)) (Cf F b f eI (ax (a+1)))) (some (.go ()))
def Ch(c:aO)(i:aO)(a:Int):Nat->Int->Option (Way (Bool) (Unit))
 |0,_=>none
 |mh+1,b=>
  (idx c.Names a).bind λ d=>
  cond (decide (b<(d.length:Int))) ((idx c.Names a).bind λ e=>
  (idx e b).bind λ f=>
  (idx i.Names a).bind λ g=>
  (idx g b).bind λ h=>
  cond (!decide (f=h)) (some (.out false)) (Ch c i a mh (ax (b+1)))) (some (.go ()))
def Cg(F:Nat)(b:aO)(c:aO):Nat->Int->Option (Way (Bool) (Unit))
 |0,_=>none
 |hA+1,a=>
  cond (decide (a<(b.Names.length:Int))) (dd (α:=Unit) ((idx b.Names a).bind λ d=>
  (idx c.Names a).bind λ e=>
  cond (!decide ((d.length:Int)=(e.length:Int))) (some (.out false)) (dd (α:=Unit) (Ch b c a F 0) λ(_:Unit)=>
  some (.go ()))) λ(_:Unit)=>
  Cg F b c hA (ax (a+1))) (some (.go ()))
def Cj(c:aO)(i:aO)(a:Int):Nat->Int->Option (Way (Bool) (Unit))
 |0,_=>none
 |zE+1,b=>
  (idx c.aZ a).bind λ d=>
  cond (decide (b<(d.length:Int))) ((idx c.aZ a).bind λ e=>
  (idx e b).bind λ f=>
  (idx i.aZ a).bind λ g=>
  (idx g b).bind λ h=>
  cond (!decide (f=h)) (some (.out false)) (Cj c i a zE (ax (b+1)))) (some (.go ()))
def Ci(F:Nat)(b:aO)(c:aO):Nat->Int->Option (Way (Bool) (Unit))
 |0,_=>none
 |uB+1,a=>
  cond (decide (a<(b.aZ.length:Int))) (dd (α:=Unit) ((idx b.aZ a).bind λ d=>
  (idx c.aZ a).bind λ e=>
  cond (!decide ((d.length:Int)=(e.length:Int))) (some (.out false)) (dd (α:=Unit) (Cj b c a F 0) λ(_:Unit)=>
  some (.go ()))) λ(_:Unit)=>
  Ci F b c uB (ax (a+1))) (some (.go ()))
def Fi(F:Nat)(a:aO)(b:aO):Option (Bool):=
 (Fg F a.a6 b.a6).bind λ c=>
 cond (((((!c)||(!decide ((b.aY.length:Int)=(a.aY.length:Int))))||(!decide ((a.Fields.length:Int)=(b.Fields.length:Int))))||(!decide ((a.Names.length:Int)=(b.Names.length:Int))))||(!decide ((a.aZ.length:Int)=(b.aZ.length:Int)))) (some false) (cm (α:=Unit) (yN a b F 0) λ(_:Unit)=>
 cm (α:=Unit) (Cf F a b F 0) λ(_:Unit)=>
 cm (α:=Unit) (Cg F a b F 0) λ(_:Unit)=>
 cm (α:=Unit) (Ci F a b F 0) λ(_:Unit)=>
 some true)
def B2(b:List ap)(d:List UInt8):Nat->Int->Option (Way (Int) (Unit))
 |0,_=>none
 |bS+1,a=>
  cond (decide (a<(b.length:Int))) ((idx b a).bind λ c=>
  cond (decide (c.Name=d)) (some (.out a)) (B2 b d bS (ax (a+1)))) (some (.go ()))
def o_(F:Nat)(a:List ap)(b:List UInt8):Option (Int):=
 cm (α:=Unit) (B2 a b F 0) λ(_:Unit)=>
 some (-1)
def Cn(F:Nat)(a:List ap):Nat->Int->(List Int)->Option (Way (List Int) (List Int))
 |0,_,_=>none
 |bS+1,b,XQ=>
  cond (decide (0<=b)) (cond (decide ((a.length:Int)<(XQ.length:Int))) (some (.out [])) ((bI 8 [b] XQ).bind λ c=>
  (idx a b).bind λ d=>
  (o_ F a d.c9).bind λ e=>
  Cn F a bS e c)) (some (.go XQ))
def yQ(F:Nat)(b:List ap)(c:Int):Option (List Int):=
 cm (α:=List Int) (Cn F b F c []) λ(a:List Int)=>
 some a
def yP(F:Nat)(Ds:List Kind)(b:List ap):Nat->Int->Option (Way (Bool) (Unit))
 |0,_=>none
 |bS+1,a=>
  cond (decide (a<(Ds.length:Int))) ((idx Ds a).bind λ c=>
  cond (!decide (c.ap=[])) ((idx Ds a).bind λ d=>
  (o_ F b d.ap).bind λ e=>
  cond (decide (e<0)) (some (.out false)) (yP F Ds b bS (ax (a+1)))) (yP F Ds b bS (ax (a+1)))) (some (.go ()))
def Cm(F:Nat)(a:List ap)(Ds:List Kind):Option (Bool):=
 cm (α:=Unit) (yP F Ds a F 0) λ(_:Unit)=>
 some true
def tI(f:List ap)(b:List Int):Nat->(List Field)->Int->Option (List Field)
 |0,_,_=>none
 |bS+1,a,Yv=>
  cond (decide (Yv<(b.length:Int))) ((idx b Yv).bind λ c=>
  (idx f c).bind λ d=>
  (bI 40 a d.Fields).bind λ e=>
  tI f b bS e (ax (Yv+1))) (some a)
def BI(F:Nat)(b:List ap)(c:Int):Option (List Field):=
 (yQ F b c).bind λ d=>
 ew (α:=List Field) (tI b d F [] 0) λ(a:List Field)=>
 some a
def rR(b:List (List UInt8))(d:Method):Nat->Int->Option (Int)
 |0,_=>none
 |hA+1,a=>
  cond (decide (a<(b.length:Int))) ((idx b a).bind λ c=>
  cond (!decide (c=d.Name)) (rR b d hA (ax (a+1))) (some a)) (some a)
def Cl(F:Nat)(f:List ap)(c:List Int)(d:Int):Nat->(List Target)->(List (List UInt8))->Int->Option ((List Target)×(List (List UInt8)))
 |0,_,_,_=>none
 |eI+1,g,a,e=>
  (idx c d).bind λ h=>
  (idx f h).bind λ i=>
  cond (decide (e<(i.bp.length:Int))) (ew (α:=(List Target)×(List (List UInt8))) ((idx c d).bind λ j=>
  (idx f j).bind λ k=>
  (idx k.bp e).bind λ t=>
  ew (α:=Int) (rR a t F 0) λ(l:Int)=>
  ew (α:=(List Target)×(List (List UInt8))) (cond (decide (l=(a.length:Int))) ((bI 16 a [t.Name]).bind λ m=>
  (bI 16 g [(⟨0,0⟩:Target)]).bind λ n=>
  some (n,m)) (some (g,a))) λ((b,o):(List Target)×(List (List UInt8)))=>
  (idx c d).bind λ p=>
  (idx b l).bind λ u=>
  (some (b.set (l).toNat (⟨p,e⟩:Target))).bind λ q=>
  some (q,o)) λ((r,s):(List Target)×(List (List UInt8)))=>
  Cl F f c d eI r s (ax (e+1))) (some (g,a))
def Ck(F:Nat)(i:List ap)(c:List Int):Nat->(List Target)->(List (List UInt8))->Int->Option ((List Target)×(List (List UInt8)))
 |0,_,_,_=>none
 |bS+1,a,b,d=>
  cond (decide (d<(c.length:Int))) (ew (α:=(List Target)×(List (List UInt8))) (ew (α:=(List Target)×(List (List UInt8))) (Cl F i c d F a b 0) λ((e,f):(List Target)×(List (List UInt8)))=>
  some (e,f)) λ((g,h):(List Target)×(List (List UInt8)))=>
  Ck F i c bS g h (ax (d+1))) (some (a,b))
def Iq(F:Nat)(c:List ap)(d:Int):Option ((List (List UInt8))×(List Target)):=
 (yQ F c d).bind λ e=>
 ew (α:=(List Target)×(List (List UInt8))) (Ck F c e F [] [] 0) λ((a,b):(List Target)×(List (List UInt8)))=>
 some (b,a)
end I
namespace I
def vJ(F:Nat)(a:List ap):Nat->Int->Option (Way (Int) (Unit))
 |0,_=>none
 |bS+1,b=>
  cond (decide (b<(a.length:Int))) ((idx a b).bind λ c=>
  (o_ F a c.Name).bind λ d=>
  cond (!decide (d=b)) (some (.out 6)) (vJ F a bS (ax (b+1)))) (some (.go ()))
def BS(a:List ap):Nat->Int->Option (Way (Int) (Unit))
 |0,_=>none
 |eI+1,b=>
  cond (decide (b<(a.length:Int))) ((idx a b).bind λ c=>
  (idx a b).bind λ d=>
  cond (!((decide (c.Name=[79,98,106,101,99,116]))==(decide (d.c9=[])))) (some (.out 4)) (BS a eI (ax (b+1)))) (some (.go ()))
def yI(F:Nat)(a:List ap):Nat->Int->Option (Way (Int) (Unit))
 |0,_=>none
 |hA+1,b=>
  cond (decide (b<(a.length:Int))) ((idx a b).bind λ c=>
  cond (!decide (c.c9=[])) ((idx a b).bind λ d=>
  (o_ F a d.c9).bind λ e=>
  cond (decide (e<0)) (some (.out 5)) (yI F a hA (ax (b+1)))) (yI F a hA (ax (b+1)))) (some (.go ()))
def BT(F:Nat)(a:List ap):Nat->Int->Option (Way (Int) (Unit))
 |0,_=>none
 |mh+1,b=>
  cond (decide (b<(a.length:Int))) ((yQ F a b).bind λ c=>
  cond (decide ((c.length:Int)=0)) (some (.out 4)) (BT F a mh (ax (b+1)))) (some (.go ()))
def BU(F:Nat)(b:List ap)(c:Int):Nat->Int->Option (Way (Int) (Unit))
 |0,_=>none
 |zE+1,d=>
  (idx b c).bind λ e=>
  cond (decide (d<(e.Fields.length:Int))) ((idx b c).bind λ f=>
  (idx f.Fields d).bind λ a=>
  (Cm F b [(⟨a.Kind.Kind,a.Kind.ap⟩:Kind)]).bind λ g=>
  cond (!g) (some (.out 5)) (BU F b c zE (ax (d+1)))) (some (.go ()))
def BW(F:Nat)(e:List ap)(a:Method):Nat->Int->Option (Way (Int) (Unit))
 |0,_=>none
 |XI+1,b=>
  cond (decide (b<(a.cL.length:Int))) ((idx a.cL b).bind λ c=>
  (o_ F e c.ap).bind λ d=>
  cond (decide (d<0)) (some (.out 5)) (BW F e a XI (ax (b+1)))) (some (.go ()))
def BV(F:Nat)(a:List ap)(c:Int):Nat->Int->Option (Way (Int) (Unit))
 |0,_=>none
 |OW+1,d=>
  (idx a c).bind λ e=>
  cond (decide (d<(e.bp.length:Int))) (dd (α:=Unit) ((idx a c).bind λ f=>
  (idx f.bp d).bind λ b=>
  (Cm F a b.cD).bind λ g=>
  cond (!g) (some (.out 5)) ((Cm F a [(⟨b.Returns.Kind,b.Returns.ap⟩:Kind)]).bind λ h=>
  cond (!h) (some (.out 5)) (dd (α:=Unit) (BW F a b F 0) λ(_:Unit)=>
  some (.go ())))) λ(_:Unit)=>
  BV F a c OW (ax (d+1))) (some (.go ()))
def yJ(F:Nat)(a:List ap):Nat->Int->Option (Way (Int) (Unit))
 |0,_=>none
 |uB+1,b=>
  cond (decide (b<(a.length:Int))) (dd (α:=Unit) (dd (α:=Unit) (BU F a b F 0) λ(_:Unit)=>
  dd (α:=Unit) (BV F a b F 0) λ(_:Unit)=>
  some (.go ())) λ(_:Unit)=>
  yJ F a uB (ax (b+1))) (some (.go ()))
def BO(a:List Field)(b:Int):Nat->Int->Option (Way (Int) (Unit))
 |0,_=>none
 |aBN+1,c=>
  cond (decide (c<b)) ((idx a c).bind λ d=>
  (idx a b).bind λ e=>
  cond (decide (d.Name=e.Name)) (some (.out 6)) (BO a b aBN (ax (c+1)))) (some (.go ()))
def BN(F:Nat)(a:List Field):Nat->Int->Option (Way (Int) (Unit))
 |0,_=>none
 |aBM+1,b=>
  cond (decide (b<(a.length:Int))) (dd (α:=Unit) (dd (α:=Unit) (BO a b F 0) λ(_:Unit)=>
  some (.go ())) λ(_:Unit)=>
  BN F a aBM (ax (b+1))) (some (.go ()))
def tL(a:ap)(b:Int):Nat->Int->Option (Way (Int) (Unit))
 |0,_=>none
 |aBP+1,c=>
  cond (decide (c<b)) ((idx a.bp c).bind λ d=>
  (idx a.bp b).bind λ e=>
  cond (decide (d.Name=e.Name)) (some (.out 6)) (tL a b aBP (ax (c+1)))) (some (.go ()))
def tK(F:Nat)(a:ap):Nat->Int->Option (Way (Int) (Unit))
 |0,_=>none
 |aBO+1,b=>
  cond (decide (b<(a.bp.length:Int))) (dd (α:=Unit) (dd (α:=Unit) (tL a b F 0) λ(_:Unit)=>
  some (.go ())) λ(_:Unit)=>
  tK F a aBO (ax (b+1))) (some (.go ()))
def BX(F:Nat)(a:List ap):Nat->Int->Option (Way (Int) (Unit))
 |0,_=>none
 |OX+1,b=>
  cond (decide (b<(a.length:Int))) (dd (α:=Unit) ((BI F a b).bind λ c=>
  dd (α:=Unit) (BN F c F 0) λ(_:Unit)=>
  (idx a b).bind λ d=>
  dd (α:=Unit) (tK F d F 0) λ(_:Unit)=>
  some (.go ())) λ(_:Unit)=>
  BX F a OX (ax (b+1))) (some (.go ()))
def yH(F:Nat)(a:List ap)(g:Int)(d:List Int)(e:Int)(h:Int):Nat->Int->Option (Way (Int) (Unit))
 |0,_=>none
 |aiC+1,f=>
  (idx d e).bind λ i=>
  (idx a i).bind λ j=>
  cond (decide (f<(j.bp.length:Int))) ((idx a g).bind λ k=>
  (idx k.bp h).bind λ b=>
  (idx d e).bind λ l=>
  (idx a l).bind λ m=>
  (idx m.bp f).bind λ c=>
  cond (decide (b.Name=c.Name)) (cond (b.Static||c.Static) (some (.out 4)) ((vN F b.cD c.cD).bind λ n=>
  cond (!n) (some (.out 4)) (cond (!decide ((⟨b.Returns.Kind,b.Returns.ap⟩:Kind)=(⟨c.Returns.Kind,c.Returns.ap⟩:Kind))) (some (.out 4)) (yH F a g d e h aiC (ax (f+1)))))) (yH F a g d e h aiC (ax (f+1)))) (some (.go ()))
def BR(F:Nat)(a:List ap)(b:Int)(e:List Int)(f:Int):Nat->Int->Option (Way (Int) (Unit))
 |0,_=>none
 |aBS+1,c=>
  (idx a b).bind λ d=>
  cond (decide (c<(d.bp.length:Int))) (dd (α:=Unit) (dd (α:=Unit) (yH F a b e f c F 0) λ(_:Unit)=>
  some (.go ())) λ(_:Unit)=>
  BR F a b e f aBS (ax (c+1))) (some (.go ()))
def BQ(F:Nat)(c:List ap)(d:Int)(a:List Int):Nat->Int->Option (Way (Int) (Unit))
 |0,_=>none
 |aBR+1,b=>
  cond (decide (b<(ax ((a.length:Int)-1)))) (dd (α:=Unit) (dd (α:=Unit) (BR F c d a b F 0) λ(_:Unit)=>
  some (.go ())) λ(_:Unit)=>
  BQ F c d a aBR (ax (b+1))) (some (.go ()))
def BP(F:Nat)(a:List ap):Nat->Int->Option (Way (Int) (Unit))
 |0,_=>none
 |aBQ+1,b=>
  cond (decide (b<(a.length:Int))) (dd (α:=Unit) ((yQ F a b).bind λ c=>
  dd (α:=Unit) (BQ F a b c F 0) λ(_:Unit)=>
  some (.go ())) λ(_:Unit)=>
  BP F a aBQ (ax (b+1))) (some (.go ()))
def Il(F:Nat)(a:List ap):Option (Int):=
 (Ik F a).bind λ h=>
 cond (!decide (h=0)) (some h) (cm (α:=Unit) (vJ F a F 0) λ(_:Unit)=>
 (o_ F a [79,98,106,101,99,116]).bind λ d=>
 cond (decide (d<0)) (some 5) ((o_ F a [69,114,114,111,114]).bind λ e=>
 cond (decide (e<0)) (some 5) (cm (α:=Unit) (BS a F 0) λ(_:Unit)=>
 cm (α:=Unit) (yI F a F 0) λ(_:Unit)=>
 cm (α:=Unit) (BT F a F 0) λ(_:Unit)=>
 (o_ F a [69,114,114,111,114]).bind λ b=>
 (BI F a b).bind λ c=>
 (idx a b).bind λ f=>
 cond ((!decide (f.c9=[79,98,106,101,99,116]))||(decide ((c.length:Int)=0))) (some 4) ((idx c 0).bind λ g=>
 cond (!decide (g.Kind.Kind=1)) (some 4) (cm (α:=Unit) (yJ F a F 0) λ(_:Unit)=>
 cm (α:=Unit) (BX F a F 0) λ(_:Unit)=>
 cm (α:=Unit) (BP F a F 0) λ(_:Unit)=>
 some 0)))))
def rQ(F:Nat)(a:List ap):Nat->(List (List Target))->(List (List (List UInt8)))->(List (List Field))->(List Int)->Int->Option (Way (aO×Int) ((List (List Target))×(List (List (List UInt8)))×(List (List Field))×(List Int)))
 |0,_,_,_,_,_=>none
 |bS+1,Dt,k,l,m,b=>
  cond (decide (b<(a.length:Int))) ((BI F a b).bind λ c=>
  (Iq F a b).bind λ d=>
  cond ((decide (12<(c.length:Int)))||(decide (16<(d.1.length:Int)))) (some (.out ((⟨[],[],[],[],[]⟩:aO),2))) ((idx a b).bind λ e=>
  (o_ F a e.c9).bind λ f=>
  (bI 8 m [f]).bind λ g=>
  (bI 24 l [c]).bind λ h=>
  (bI 24 k [d.1]).bind λ i=>
  (bI 24 Dt [d.2]).bind λ j=>
  rQ F a bS j i h g (ax (b+1)))) (some (.go (Dt,k,l,m)))
def Io(F:Nat)(a:List ap):Option (aO×Int):=
 (Il F a).bind λ f=>
 cond (!decide (f=0)) (some ((⟨[],[],[],[],[]⟩:aO),f)) (cm (α:=(List (List Target))×(List (List (List UInt8)))×(List (List Field))×(List Int)) (rQ F a F [] [] [] [] 0) λ((b,c,d,e):(List (List Target))×(List (List (List UInt8)))×(List (List Field))×(List Int))=>
 some ((⟨a,e,d,c,b⟩:aO),0))
end I
namespace I
def pM(a:bt):Nat->(List ((List UInt8)×Int))->Int->Option (Way (Int×bt) (List ((List UInt8)×Int)))
 |0,_,_=>none
 |bS+1,c,sO=>
  cond (decide (sO<(a.l.length:Int))) ((idx a.l sO).bind λ b=>
  cond ((cH c b.Name).isSome) (some (.out (6,(⟨a.l,c,a.dB⟩:bt)))) (pM a bS (gf c b.Name sO) (ax (sO+1)))) (some (.go c))
def Gt(F:Nat)(a:bt):Option (Int×bt):=
 cm (α:=List ((List UInt8)×Int)) (pM a F a.b3 0) λ(b:List ((List UInt8)×Int))=>
 cond ((!((cH b [79,98,106,101,99,116]).isSome))||(!((cH b [69,114,114,111,114]).isSome))) (some (5,(⟨a.l,b,a.dB⟩:bt))) (some (0,(⟨a.l,b,a.dB⟩:bt)))
def xm(a:bt):Nat->Int->Option (Way (Int×bt) (Unit))
 |0,_=>none
 |bS+1,c=>
  cond (decide (c<(a.l.length:Int))) ((idx a.l c).bind λ b=>
  cond (!((decide (b.Name=[79,98,106,101,99,116]))==(decide (b.c9=[])))) (some (.out (4,(⟨a.l,a.b3,a.dB⟩:bt)))) (xm a bS (ax (c+1)))) (some (.go ()))
def nn(a:bt):Nat->(List Int)->Int->Option (Way (Int×bt) (List Int))
 |0,_,_=>none
 |eI+1,c,d=>
  cond (decide (d<(a.l.length:Int))) (dd (α:=List Int) ((idx a.l d).bind λ b=>
  dd (α:=Int) (dd (α:=Int) (cond (decide (b.c9=[])) (some (.go (-1))) (cond (!((cH a.b3 b.c9).isSome)) (some (.out (5,(⟨a.l,a.b3,c⟩:bt)))) (some (.go ((cH a.b3 b.c9).getD 0))))) λ(e:Int)=>
  some (.go e)) λ(f:Int)=>
  (bI 8 c [f]).bind λ g=>
  some (.go g)) λ(h:List Int)=>
  nn a eI h (ax (d+1))) (some (.go c))
def uH(b:bt)(c:List Int):Nat->Int->Int->Option (Int)
 |0,_,_=>none
 |mh+1,d,e=>
  cond (decide (e<(b.l.length:Int))) ((idx c d).bind λ a=>
  cond (decide (a<0)) (some a) (uH b c mh a (ax (e+1)))) (some d)
def sC(F:Nat)(a:bt)(b:List Int):Nat->Int->Option (Way (Int×bt) (Unit))
 |0,_=>none
 |hA+1,c=>
  cond (decide (c<(a.l.length:Int))) (dd (α:=Unit) (ew (α:=Int) (ew (α:=Int) (uH a b F c 0) λ(d:Int)=>
  some d) λ(e:Int)=>
  cond (decide (0<=e)) (some (.out (4,(⟨a.l,a.b3,b⟩:bt)))) (some (.go ()))) λ(_:Unit)=>
  sC F a b hA (ax (c+1))) (some (.go ()))
def Pc(F:Nat)(a:bt):Option (Int×bt):=
 cm (α:=Unit) (xm a F 0) λ(_:Unit)=>
 cm (α:=List Int) (nn a F a.dB 0) λ(b:List Int)=>
 cm (α:=Unit) (sC F a b F 0) λ(_:Unit)=>
 some (0,(⟨a.l,a.b3,b⟩:bt))
def sE(b:bt):Nat->(List Int)->Int->Option (List Int)
 |0,_,_=>none
 |bS+1,c,a=>
  cond (decide (0<=a)) ((bI 8 c [a]).bind λ d=>
  (idx b.dB a).bind λ e=>
  sE b bS d e) (some c)
def sD(F:Nat)(a:bt)(b:Int):Option (List Int):=
 ew (α:=List Int) (sE a F [] b) λ(c:List Int)=>
 some c
def Ll(_:List Int):Option Unit:=some ()
def zK(b:bt):List Int->(List Field)->Option (List Field)
 |[],a=>some a
 |A3::c,a=>
  (idx b.l A3).bind λ Bl=>
  (bI 40 a Bl.Fields).bind λ d=>
  zK b c d
def uI(F:Nat)(a:bt)(c:Int):Option (List Field):=
 (sD F (⟨a.l,a.b3,a.dB⟩:bt) c).bind λ b=>
 (Ll b).bind λ e=>
 ew (α:=List Field) (zK a b.reverse []) λ(d:List Field)=>
 some d
def Pd(F:Nat)(a:bt):Option (Int):=
 (uI F (⟨a.l,a.b3,a.dB⟩:bt) ((cH a.b3 [69,114,114,111,114]).getD 0)).bind λ d=>
 (idx a.l ((cH a.b3 [69,114,114,111,114]).getD 0)).bind λ b=>
 cond ((!decide (b.c9=[79,98,106,101,99,116]))||(decide ((d.length:Int)=0))) (some 4) ((idx d 0).bind λ c=>
 cond (!decide (c.Kind.Kind=1)) (some 4) (some 0))
def DH(b:Kind)(c:List (List UInt8)):Option (List (List UInt8)):=
 cond (!decide (b.ap=[])) ((bI 16 c [b.ap]).bind λ a=>
 some a) (some c)
def xp(b:ap):Nat->(List (List UInt8))->Int->Option (List (List UInt8))
 |0,_,_=>none
 |eI+1,DB,c=>
  cond (decide (c<(b.Fields.length:Int))) ((idx b.Fields c).bind λ a=>
  (DH (⟨a.Kind.Kind,a.Kind.ap⟩:Kind) DB).bind λ d=>
  xp b eI d (ax (c+1))) (some DB)
def xq(b:Method):Nat->(List (List UInt8))->Int->Option (List (List UInt8))
 |0,_,_=>none
 |mh+1,e,c=>
  cond (decide (c<(b.cD.length:Int))) ((idx b.cD c).bind λ a=>
  (DH (⟨a.Kind,a.ap⟩:Kind) e).bind λ d=>
  xq b mh d (ax (c+1))) (some e)
def sI(a:Method):Nat->(List (List UInt8))->Int->Option (List (List UInt8))
 |0,_,_=>none
 |uB+1,e,b=>
  cond (decide (b<(a.cL.length:Int))) ((idx a.cL b).bind λ c=>
  (bI 16 e [c.ap]).bind λ d=>
  sI a uB d (ax (b+1))) (some e)
def sH(F:Nat)(b:ap):Nat->(List (List UInt8))->Int->Option (List (List UInt8))
 |0,_,_=>none
 |hA+1,h,c=>
  cond (decide (c<(b.bp.length:Int))) (ew (α:=List (List UInt8)) ((idx b.bp c).bind λ a=>
  ew (α:=List (List UInt8)) (xq a F h 0) λ(d:List (List UInt8))=>
  (DH (⟨a.Returns.Kind,a.Returns.ap⟩:Kind) d).bind λ e=>
  ew (α:=List (List UInt8)) (sI a F e 0) λ(f:List (List UInt8))=>
  some f) λ(g:List (List UInt8))=>
  sH F b hA g (ax (c+1))) (some h)
def xo(F:Nat)(a:bt):Nat->(List (List UInt8))->Int->Option (List (List UInt8))
 |0,_,_=>none
 |bS+1,DA,b=>
  cond (decide (b<(a.l.length:Int))) (ew (α:=List (List UInt8)) ((idx a.l b).bind λ f=>
  ew (α:=List (List UInt8)) (xp f F DA 0) λ(c:List (List UInt8))=>
  ew (α:=List (List UInt8)) (sH F f F c 0) λ(d:List (List UInt8))=>
  some d) λ(e:List (List UInt8))=>
  xo F a bS e (ax (b+1))) (some DA)
def zR(d:bt)(a:List (List UInt8)):Nat->Int->Option (Way (Int) (Unit))
 |0,_=>none
 |zE+1,b=>
  cond (decide (b<(a.length:Int))) ((idx a b).bind λ c=>
  cond (!((cH d.b3 c).isSome)) (some (.out 5)) (zR d a zE (ax (b+1)))) (some (.go ()))
def Kr(F:Nat)(a:bt):Option (Int):=
 ew (α:=List (List UInt8)) (xo F a F [] 0) λ(b:List (List UInt8))=>
 cm (α:=Unit) (zR a b F 0) λ(_:Unit)=>
 some 0
def zS(a:List (List UInt8)):Nat->(List ((List UInt8)×Bool))->Int->Option (List ((List UInt8)×Bool))
 |0,_,_=>none
 |bS+1,d,b=>
  cond (decide (b<(a.length:Int))) ((idx a b).bind λ c=>
  zS a bS (gf d c true) (ax (b+1))) (some d)
def Gv(F:Nat)(b:List (List UInt8)):Option (Bool):=
 ew (α:=List ((List UInt8)×Bool)) (zS b F [] 0) λ(a:List ((List UInt8)×Bool))=>
 some (decide ((a.length:Int)<(b.length:Int)))
def xn(a:List Field):Nat->(List (List UInt8))->Int->Option (List (List UInt8))
 |0,_,_=>none
 |eI+1,e,b=>
  cond (decide (b<(a.length:Int))) ((idx a b).bind λ c=>
  (bI 16 e [c.Name]).bind λ d=>
  xn a eI d (ax (b+1))) (some e)
def sG(a:ap):Nat->(List (List UInt8))->Int->Option (List (List UInt8))
 |0,_,_=>none
 |hA+1,e,b=>
  cond (decide (b<(a.bp.length:Int))) ((idx a.bp b).bind λ c=>
  (bI 16 e [c.Name]).bind λ d=>
  sG a hA d (ax (b+1))) (some e)
def zO(F:Nat)(a:bt):Nat->Int->Option (Way (Int) (Unit))
 |0,_=>none
 |bS+1,b=>
  cond (decide (b<(a.l.length:Int))) (dd (α:=Unit) ((idx a.l b).bind λ g=>
  (uI F (⟨a.l,a.b3,a.dB⟩:bt) b).bind λ h=>
  ew (α:=List (List UInt8)) (xn h F [] 0) λ(c:List (List UInt8))=>
  ew (α:=List (List UInt8)) (sG g F [] 0) λ(d:List (List UInt8))=>
  (Gv F c).bind λ e=>
  cond (e) (some (.out 6)) ((Gv F d).bind λ f=>
  cond (f) (some (.out 6)) (some (.go ())))) λ(_:Unit)=>
  zO F a bS (ax (b+1))) (some (.go ()))
def Kq(F:Nat)(a:bt):Option (Int):=
 cm (α:=Unit) (zO F a F 0) λ(_:Unit)=>
 some 0
def D8(a:List Kind)(cc:List Kind):Nat->Int->Option (Way (Bool) (Unit))
 |0,_=>none
 |bS+1,dg=>
  cond (decide (dg<(a.length:Int))) ((idx a dg).bind λ b=>
  (idx cc dg).bind λ c=>
  cond (!decide (b=c)) (some (.out false)) (D8 a cc bS (ax (dg+1)))) (some (.go ()))
def Ls(F:Nat)(a:List Kind)(cc:List Kind):Option (Bool):=
 cond (!decide ((a.length:Int)=(cc.length:Int))) (some false) (cm (α:=Unit) (D8 a cc F 0) λ(_:Unit)=>
 some true)
def Pb(F:Nat)(a:Method)(b:Method):Option (Bool):=
 cond ((!a.Static)&&(!b.Static)) ((Ls F a.cD b.cD).bind λ c=>
 cond (c) (some (decide ((⟨a.Returns.Kind,a.Returns.ap⟩:Kind)=(⟨b.Returns.Kind,b.Returns.ap⟩:Kind)))) (some false)) (some false)
def sF(F:Nat)(a:Method)(c:ap):Nat->Int->Option (Way (Int) (Unit))
 |0,_=>none
 |mh+1,d=>
  cond (decide (d<(c.bp.length:Int))) ((idx c.bp d).bind λ b=>
  cond (decide (a.Name=b.Name)) ((Pb F (⟨a.Name,a.Static,a.cD,(⟨a.Returns.Kind,a.Returns.ap⟩:Kind),a.hQ,a.hN,a.Code,a.cL⟩:Method) (⟨b.Name,b.Static,b.cD,(⟨b.Returns.Kind,b.Returns.ap⟩:Kind),b.hQ,b.hN,b.Code,b.cL⟩:Method)).bind λ e=>
  cond (!e) (some (.out 4)) (sF F a c mh (ax (d+1)))) (sF F a c mh (ax (d+1)))) (some (.go ()))
def zN(F:Nat)(c:bt)(a:ap)(d:Int):Nat->Int->Option (Way (Int) (Unit))
 |0,_=>none
 |hA+1,b=>
  cond (decide (b<(a.bp.length:Int))) (dd (α:=Unit) ((idx a.bp b).bind λ e=>
  (idx c.l d).bind λ f=>
  dd (α:=Unit) (sF F e f F 0) λ(_:Unit)=>
  some (.go ())) λ(_:Unit)=>
  zN F c a d hA (ax (b+1))) (some (.go ()))
def zM(F:Nat)(c:bt)(d:ap)(a:List Int):Nat->Int->Option (Way (Int) (Unit))
 |0,_=>none
 |eI+1,b=>
  cond (decide (b<(a.length:Int))) (dd (α:=Unit) ((idx a b).bind λ e=>
  dd (α:=Unit) (zN F c d e F 0) λ(_:Unit)=>
  some (.go ())) λ(_:Unit)=>
  zM F c d a eI (ax (b+1))) (some (.go ()))
def zL(F:Nat)(a:bt):Nat->Int->Option (Way (Int) (Unit))
 |0,_=>none
 |bS+1,c=>
  cond (decide (c<(a.l.length:Int))) (dd (α:=Unit) ((idx a.l c).bind λ d=>
  (sD F (⟨a.l,a.b3,a.dB⟩:bt) c).bind λ b=>
  (cut b 1 (b.length:Int)).bind λ e=>
  dd (α:=Unit) (zM F a d e F 0) λ(_:Unit)=>
  some (.go ())) λ(_:Unit)=>
  zL F a bS (ax (c+1))) (some (.go ()))
def Kp(F:Nat)(a:bt):Option (Int):=
 cm (α:=Unit) (zL F a F 0) λ(_:Unit)=>
 some 0
end I
namespace I
def aaV(s_:List Field):Option (List Field):=
 (bI 40 ([]:List Field) s_).bind λ a=>
 some a
def aaY(s_:List Method):Option (List Method):=
 (bI 128 ([]:List Method) s_).bind λ a=>
 some a
def aaX(s_:List Kind):Option (List Kind):=
 (bI 24 ([]:List Kind) s_).bind λ a=>
 some a
def aaW(s_:List Handler):Option (List Handler):=
 (bI 40 ([]:List Handler) s_).bind λ a=>
 some a
def uJ:Nat->(List Method)->Int->Int->Option (List Method)
 |0,_,_,_=>none
 |eI+1,g,d,c=>
  cond (decide (c<d)) ((idx g c).bind λ e=>
  (aaX e.cD).bind λ h=>
  (aaW e.cL).bind λ i=>
  (idx g c).bind λ a=>
  (some (g.set (c).toNat (⟨a.Name,a.Static,h,(⟨a.Returns.Kind,a.Returns.ap⟩:Kind),a.hQ,a.hN,a.Code,a.cL⟩:Method))).bind λ f=>
  (idx f c).bind λ b=>
  (some (f.set (c).toNat (⟨b.Name,b.Static,b.cD,(⟨b.Returns.Kind,b.Returns.ap⟩:Kind),b.hQ,b.hN,b.Code,i⟩:Method))).bind λ j=>
  uJ eI j d (ax (c+1))) (some g)
def sJ(F:Nat)(c:List ap):Nat->(List ap)->Int->Option (List ap)
 |0,_,_=>none
 |bS+1,i,d=>
  cond (decide (d<(c.length:Int))) (ew (α:=List ap) ((idx c d).bind λ b=>
  (aaV b.Fields).bind λ e=>
  (aaY b.bp).bind λ a=>
  ew (α:=List Method) (uJ F a (a.length:Int) 0) λ(f:List Method)=>
  (bI 80 i [(⟨b.Name,b.c9,e,f⟩:ap)]).bind λ g=>
  some g) λ(h:List ap)=>
  sJ F c bS h (ax (d+1))) (some i)
def Ks(F:Nat)(b:List ap):Option (List ap):=
 ew (α:=List ap) (sJ F b F [] 0) λ(a:List ap)=>
 some a
def AL(s_:List (List UInt8))(b:List UInt8):Nat->Int->Option (Way (Int) (Unit))
 |0,_=>none
 |bS+1,a=>
  cond (decide (a<(s_.length:Int))) ((idx s_ a).bind λ c=>
  cond (decide (b=c)) (some (.out a)) (AL s_ b bS (ax (a+1)))) (some (.go ()))
def Lw(F:Nat)(s_:List (List UInt8))(a:List UInt8):Option (Int):=
 cm (α:=Unit) (AL s_ a F 0) λ(_:Unit)=>
 some (-1)
def zQ(F:Nat)(e4:Int)(c:ap):Nat->(List (List UInt8))->(List Target)->Int->Option ((List (List UInt8))×(List Target))
 |0,_,_,_=>none
 |eI+1,kD,b,a=>
  cond (decide (a<(c.bp.length:Int))) (ew (α:=(List (List UInt8))×(List Target)) ((idx c.bp a).bind λ e=>
  (Lw F kD e.Name).bind λ d=>
  cond (decide (0<=d)) ((idx b d).bind λ f=>
  (some (b.set (d).toNat (⟨e4,a⟩:Target))).bind λ g=>
  some (kD,g)) ((bI 16 kD [e.Name]).bind λ h=>
  (bI 16 b [(⟨e4,a⟩:Target)]).bind λ i=>
  some (h,i))) λ((j,k):(List (List UInt8))×(List Target))=>
  zQ F e4 c eI j k (ax (a+1))) (some (kD,b))
def zP(F:Nat)(c:bt):List Int->(List (List UInt8))->(List Target)->Option ((List (List UInt8))×(List Target))
 |[],a,b=>some (a,b)
 |e4::d,a,b=>
  ew (α:=(List (List UInt8))×(List Target)) ((idx c.l e4).bind λ e=>
  ew (α:=(List (List UInt8))×(List Target)) (zQ F e4 e F a b 0) λ((f,g):(List (List UInt8))×(List Target))=>
  some (f,g)) λ((h,i):(List (List UInt8))×(List Target))=>
  zP F c d h i
def DG(F:Nat)(a:bt)(c:Int):Option ((List (List UInt8))×(List Target)):=
 (sD F (⟨a.l,a.b3,a.dB⟩:bt) c).bind λ b=>
 (Ll b).bind λ f=>
 ew (α:=(List (List UInt8))×(List Target)) (zP F a b.reverse [] []) λ((d,e):(List (List UInt8))×(List Target))=>
 some (d,e)
def oF(F:Nat)(c:List ap)(d:Int×bt)(e:Int×bt):Nat->(List (List Target))->(List (List (List UInt8)))->(List (List Field))->Int->Option (Way (aO×Int) ((List (List Target))×(List (List (List UInt8)))×(List (List Field))))
 |0,_,_,_,_=>none
 |bS+1,k,l,m,a=>
  cond (decide (a<(c.length:Int))) ((DG F (⟨c,d.2.b3,e.2.dB⟩:bt) a).bind λ f=>
  (uI F (⟨c,d.2.b3,e.2.dB⟩:bt) a).bind λ g=>
  (bI 24 m [g]).bind λ b=>
  (bI 24 l [f.1]).bind λ h=>
  (bI 24 k [f.2]).bind λ i=>
  (idx b a).bind λ j=>
  cond ((decide (12<(j.length:Int)))||(decide (16<(f.1.length:Int)))) (some (.out ((⟨[],[],[],[],[]⟩:aO),2))) (oF F c d e bS i h b (ax (a+1)))) (some (.go (k,l,m)))
def DF(F:Nat)(e:List ap):Option (aO×Int):=
 (Ka F e).bind λ f=>
 cond (!decide (f=0)) (some ((⟨[],[],[],[],[]⟩:aO),f)) ((Ks F e).bind λ a=>
 (Gt F (⟨a,[],[]⟩:bt)).bind λ b=>
 cond (!decide (b.1=0)) (some ((⟨[],[],[],[],[]⟩:aO),b.1)) ((Pc F (⟨a,b.2.b3,[]⟩:bt)).bind λ c=>
 cond (!decide (c.1=0)) (some ((⟨[],[],[],[],[]⟩:aO),c.1)) ((Pd F (⟨a,b.2.b3,c.2.dB⟩:bt)).bind λ g=>
 cond (!decide (g=0)) (some ((⟨[],[],[],[],[]⟩:aO),g)) ((Kr F (⟨a,b.2.b3,c.2.dB⟩:bt)).bind λ h=>
 cond (!decide (h=0)) (some ((⟨[],[],[],[],[]⟩:aO),h)) ((Kq F (⟨a,b.2.b3,c.2.dB⟩:bt)).bind λ i=>
 cond (!decide (i=0)) (some ((⟨[],[],[],[],[]⟩:aO),i)) ((Kp F (⟨a,b.2.b3,c.2.dB⟩:bt)).bind λ d=>
 cond (!decide (d=0)) (some ((⟨[],[],[],[],[]⟩:aO),d)) (cm (α:=(List (List Target))×(List (List (List UInt8)))×(List (List Field))) (oF F a b c F [] [] [] 0) λ((j,k,l):(List (List Target))×(List (List (List UInt8)))×(List (List Field)))=>
 some ((⟨a,c.2.dB,l,k,j⟩:aO),0))))))))
def AG(a:List Int)(cc:List Int):Nat->Int->Option (Way (Bool) (Unit))
 |0,_=>none
 |bS+1,dg=>
  cond (decide (dg<(a.length:Int))) ((idx a dg).bind λ b=>
  (idx cc dg).bind λ c=>
  cond (!decide (b=c)) (some (.out false)) (AG a cc bS (ax (dg+1)))) (some (.go ()))
def Lu(F:Nat)(a:List Int)(cc:List Int):Option (Bool):=
 cond (!decide ((a.length:Int)=(cc.length:Int))) (some false) (cm (α:=Unit) (AG a cc F 0) λ(_:Unit)=>
 some true)
def AE(a:List Field)(cc:List Field):Nat->Int->Option (Way (Bool) (Unit))
 |0,_=>none
 |bS+1,dg=>
  cond (decide (dg<(a.length:Int))) ((idx a dg).bind λ b=>
  (idx cc dg).bind λ c=>
  cond (!decide (b=c)) (some (.out false)) (AE a cc bS (ax (dg+1)))) (some (.go ()))
def Lr(F:Nat)(a:List Field)(cc:List Field):Option (Bool):=
 cond (!decide ((a.length:Int)=(cc.length:Int))) (some false) (cm (α:=Unit) (AE a cc F 0) λ(_:Unit)=>
 some true)
def AB(F:Nat)(b:List (List Field))(cc:List (List Field)):Nat->Int->Option (Way (Bool) (Unit))
 |0,_=>none
 |bS+1,a=>
  cond (decide (a<(b.length:Int))) ((idx b a).bind λ c=>
  (idx cc a).bind λ d=>
  (Lr F c d).bind λ e=>
  cond (!e) (some (.out false)) (AB F b cc bS (ax (a+1)))) (some (.go ()))
def Ln(F:Nat)(a:List (List Field))(cc:List (List Field)):Option (Bool):=
 cond (!decide ((a.length:Int)=(cc.length:Int))) (some false) (cm (α:=Unit) (AB F a cc F 0) λ(_:Unit)=>
 some true)
def AH(a:List (List UInt8))(cc:List (List UInt8)):Nat->Int->Option (Way (Bool) (Unit))
 |0,_=>none
 |bS+1,dg=>
  cond (decide (dg<(a.length:Int))) ((idx a dg).bind λ b=>
  (idx cc dg).bind λ c=>
  cond (!decide (b=c)) (some (.out false)) (AH a cc bS (ax (dg+1)))) (some (.go ()))
def Lv(F:Nat)(a:List (List UInt8))(cc:List (List UInt8)):Option (Bool):=
 cond (!decide ((a.length:Int)=(cc.length:Int))) (some false) (cm (α:=Unit) (AH a cc F 0) λ(_:Unit)=>
 some true)
def AD(F:Nat)(b:List (List (List UInt8)))(cc:List (List (List UInt8))):Nat->Int->Option (Way (Bool) (Unit))
 |0,_=>none
 |bS+1,a=>
  cond (decide (a<(b.length:Int))) ((idx b a).bind λ c=>
  (idx cc a).bind λ d=>
  (Lv F c d).bind λ e=>
  cond (!e) (some (.out false)) (AD F b cc bS (ax (a+1)))) (some (.go ()))
def Lq(F:Nat)(a:List (List (List UInt8)))(cc:List (List (List UInt8))):Option (Bool):=
 cond (!decide ((a.length:Int)=(cc.length:Int))) (some false) (cm (α:=Unit) (AD F a cc F 0) λ(_:Unit)=>
 some true)
def AF(a:List Target)(cc:List Target):Nat->Int->Option (Way (Bool) (Unit))
 |0,_=>none
 |bS+1,dg=>
  cond (decide (dg<(a.length:Int))) ((idx a dg).bind λ b=>
  (idx cc dg).bind λ c=>
  cond (!decide (b=c)) (some (.out false)) (AF a cc bS (ax (dg+1)))) (some (.go ()))
def Lt(F:Nat)(a:List Target)(cc:List Target):Option (Bool):=
 cond (!decide ((a.length:Int)=(cc.length:Int))) (some false) (cm (α:=Unit) (AF a cc F 0) λ(_:Unit)=>
 some true)
def AC(F:Nat)(b:List (List Target))(cc:List (List Target)):Nat->Int->Option (Way (Bool) (Unit))
 |0,_=>none
 |bS+1,a=>
  cond (decide (a<(b.length:Int))) ((idx b a).bind λ c=>
  (idx cc a).bind λ d=>
  (Lt F c d).bind λ e=>
  cond (!e) (some (.out false)) (AC F b cc bS (ax (a+1)))) (some (.go ()))
def Lp(F:Nat)(a:List (List Target))(cc:List (List Target)):Option (Bool):=
 cond (!decide ((a.length:Int)=(cc.length:Int))) (some false) (cm (α:=Unit) (AC F a cc F 0) λ(_:Unit)=>
 some true)
def Gu(F:Nat)(a:aO)(b:aO):Option (Bool):=
 (Lu F a.aY b.aY).bind λ c=>
 cond (c) ((Ln F a.Fields b.Fields).bind λ e=>
 cond (e) ((Lq F a.Names b.Names).bind λ f=>
 cond (f) ((Lp F a.aZ b.aZ).bind λ d=>
 some d) (some false)) (some false)) (some false)
def oE(F:Nat)(a:aO):Option (Int):=
 (DF F a.a6).bind λ b=>
 cond (!decide (b.2=0)) (some 4) ((Gu F (⟨a.a6,a.aY,a.Fields,a.Names,a.aZ⟩:aO) (⟨b.1.a6,b.1.aY,b.1.Fields,b.1.Names,b.1.aZ⟩:aO)).bind λ c=>
 cond (!c) (some 4) (some 0))
def adF:Option (List ap):=
 some [(⟨[79,98,106,101,99,116],[],[],[(⟨[109,97,105,110],true,[],(⟨0,[]⟩:Kind),2,0,[1,0,7,31,27],[]⟩:Method)]⟩:ap),(⟨[69,114,114,111,114],[79,98,106,101,99,116],[(⟨[99,111,100,101],(⟨1,[]⟩:Kind)⟩:Field)],[]⟩:ap)]
end I
namespace I
def tM(F:Nat)(a:aO):Option (Int):=
 (Io F a.a6).bind λ b=>
 cond (!decide (b.2=0)) (some 4) ((Fi F (⟨a.a6,a.aY,a.Fields,a.Names,a.aZ⟩:aO) (⟨b.1.a6,b.1.aY,b.1.Fields,b.1.Names,b.1.aZ⟩:aO)).bind λ c=>
 cond (!c) (some 4) (some 0))
end I
namespace I
def py(a:Int)(b:Int)(Ky:Int):Option (Bool):=
 some ((decide (b<=a))&&(decide (a<=Ky)))
def ahC(Sx:Int)(a:Int):Option (aV×Int):=
 (py Sx 3 2000).bind λ b=>
 cond (!b) (some ((⟨[],0,0,0,0,[],0⟩:aV),3)) ((py a 3 2000).bind λ c=>
 cond (!c) (some ((⟨[],0,0,0,0,[],0⟩:aV),3)) ((zU (0 :Int) 8 (ax ((ax (1+Sx))+a))).bind λ d=>
 some ((⟨d,Sx,a,1,ax (Sx+1),[],1⟩:aV),0)))
def wE(s_:b')(a:Int):Option (Bool):=
 cond ((decide (a=1))||(decide (a=2))) (some true) ((py a 3 (ax ((ax (3+(s_.K.a6.length:Int)))-1))).bind λ b=>
 some b)
def wF(s_:b')(b:Int)(c:Int):Option (Bool):=
 (py c 0 500).bind λ d=>
 cond (d) (cond (decide (b<3)) (some true) ((idx s_.K.Fields (ax (b-3))).bind λ a=>
 some (decide (c=(a.length:Int))))) (some false)
def qL(s_:b')(a:Int)(d:Int):Option (Bool):=
 cond (decide (a=2)) (some true) (cond (decide (3<=a)) ((idx s_.K.Fields (ax (a-3))).bind λ b=>
 (idx b d).bind λ c=>
 some (!decide (c.Kind.Kind=1))) (some false))
def Wj(s_:b')(a:Int)(b:Int):Option (Int):=
 (wE (⟨(⟨s_.K.a6,s_.K.aY,s_.K.Fields,s_.K.Names,s_.K.aZ⟩:aO)⟩:b') a).bind λ c=>
 cond (!c) (some 7) ((wF (⟨(⟨s_.K.a6,s_.K.aY,s_.K.Fields,s_.K.Names,s_.K.aZ⟩:aO)⟩:b') a b).bind λ d=>
 cond (!d) (some 3) (some 0))
def F5(a:aV):Option (Int):=
 (py a.ak 3 2000).bind λ c=>
 cond (!c) (some 3) ((py a.aM 3 2000).bind λ d=>
 cond (!d) (some 3) (cond (!decide ((a.Words.length:Int)=(ax ((ax (1+a.ak))+a.aM)))) (some 1) ((py a.aX 1 (ax (a.ak+1))).bind λ e=>
 cond (!e) (some 3) ((py a.aW (ax (a.ak+1)) (ax ((ax (a.ak+a.aM))+1))).bind λ b=>
 cond ((!b)||(decide (a.Next<1))) (some 3) (some 0)))))
def F1(a:bj)(at_:Int):Option (Bool):=
 some ((decide (0<at_))&&(decide (at_<=a.H.ak)))
def F0(a:bj)(at_:Int):Option (Bool):=
 some ((cH a.dP at_).getD false)
def px(f:Int)(a:bj):Nat->(List Int)->(List (Int×Bool))->Int->Option (Way ((List Int)×Bool×bj) ((List Int)×(List (Int×Bool))))
 |0,_,_,_=>none
 |bS+1,j,d,b=>
  cond (decide (b<f)) (cond (decide (f<(ax (b+3)))) (some (.out ([],false,(⟨(⟨a.H.Words,a.H.ak,a.H.aM,a.H.aX,a.H.aW,a.H.aS,a.H.Next⟩:aV),(⟨(⟨a.S.K.a6,a.S.K.aY,a.S.K.Fields,a.S.K.Names,a.S.K.aZ⟩:aO)⟩:b'),a.ak,a.aM,d⟩:bj)))) ((idx a.H.Words b).bind λ e=>
  (idx a.H.Words (ax (b+1))).bind λ c=>
  (wE (⟨(⟨a.S.K.a6,a.S.K.aY,a.S.K.Fields,a.S.K.Names,a.S.K.aZ⟩:aO)⟩:b') e).bind λ g=>
  cond (!g) (some (.out ([],false,(⟨(⟨a.H.Words,a.H.ak,a.H.aM,a.H.aX,a.H.aW,a.H.aS,a.H.Next⟩:aV),(⟨(⟨a.S.K.a6,a.S.K.aY,a.S.K.Fields,a.S.K.Names,a.S.K.aZ⟩:aO)⟩:b'),a.ak,a.aM,d⟩:bj)))) ((wF (⟨(⟨a.S.K.a6,a.S.K.aY,a.S.K.Fields,a.S.K.Names,a.S.K.aZ⟩:aO)⟩:b') e c).bind λ h=>
  cond ((!h)||(decide (f<(ax ((ax (b+3))+c))))) (some (.out ([],false,(⟨(⟨a.H.Words,a.H.ak,a.H.aM,a.H.aX,a.H.aW,a.H.aS,a.H.Next⟩:aV),(⟨(⟨a.S.K.a6,a.S.K.aY,a.S.K.Fields,a.S.K.Names,a.S.K.aZ⟩:aO)⟩:b'),a.ak,a.aM,d⟩:bj)))) ((bI 8 j [b]).bind λ i=>
  px f a bS i (gf d b true) (ax (b+(ax (3+c)))))))) (some (.go (j,d)))
def na(F:Nat)(a:bj)(b:Int)(e:Int):Option ((List Int)×Bool×bj):=
 cm (α:=(List Int)×(List (Int×Bool))) (px e a F [] a.dP b) λ((c,d):(List Int)×(List (Int×Bool)))=>
 some (c,true,(⟨(⟨a.H.Words,a.H.ak,a.H.aM,a.H.aX,a.H.aW,a.H.aS,a.H.Next⟩:aV),(⟨(⟨a.S.K.a6,a.S.K.aY,a.S.K.Fields,a.S.K.Names,a.S.K.aZ⟩:aO)⟩:b'),a.ak,a.aM,d⟩:bj))
def wG(at_:Int)(a:bj)(h:Int):Nat->(List Int)->Int->Option (List Int)
 |0,_,_=>none
 |bS+1,c,b=>
  cond (decide (b<h)) (ew (α:=List Int) ((idx a.H.Words at_).bind λ d=>
  (qL (⟨(⟨a.S.K.a6,a.S.K.aY,a.S.K.Fields,a.S.K.Names,a.S.K.aZ⟩:aO)⟩:b') d b).bind λ e=>
  cond (e) ((bI 8 c [ax ((ax (at_+3))+b)]).bind λ f=>
  some f) (some c)) λ(g:List Int)=>
  wG at_ a h bS g (ax (b+1))) (some c)
def qM(F:Nat)(b:bj)(at_:Int):Option (List Int):=
 (idx b.H.Words (ax (at_+1))).bind λ c=>
 ew (α:=List Int) (wG at_ b c F [] 0) λ(a:List Int)=>
 some a
def QL(a:Int):Option (List Int):=
 ew (α:=Unit) (cond (decide (a<0)) ((none:Option (Unit))) (some ())) λ(_:Unit)=>
 cond (decide (0<(ax (a-0)))) ((Ix (0 :Int) 8 (ax (a-0))).bind λ b=>
 some ([]:List Int)) (some [])
def xN(b:List (List Int)):Nat->Int->Int->Option (Int)
 |0,_,_=>none
 |bS+1,c,d=>
  cond (decide (d<(b.length:Int))) (ew (α:=Int) ((idx b d).bind λ a=>
  cond (decide ((ax (c+(a.length:Int)))<0)) ((none:Option (Int))) (some (ax (c+(a.length:Int))))) λ(e:Int)=>
  xN b bS e (ax (d+1))) (some c)
def xO(a:List (List Int)):Nat->(List Int)->Int->Option (List Int)
 |0,_,_=>none
 |eI+1,e,b=>
  cond (decide (b<(a.length:Int))) ((idx a b).bind λ c=>
  (bI 8 e c).bind λ d=>
  xO a eI d (ax (b+1))) (some e)
def Hl(F:Nat)(d:List (List Int)):Option (List Int):=
 ew (α:=Int) (xN d F 0 0) λ(a:Int)=>
 (QL a).bind λ b=>
 ew (α:=List Int) (xO d F b 0) λ(c:List Int)=>
 some c
def zo(F:Nat)(a:bj):Option (List Int):=
 (Hl F [a.ak,a.aM]).bind λ hE=>
 some hE
def cmp_isNaN_int(a:Int):Option (Bool):=
 some (!decide (a=a))
def cmp_Less_int(b:Int)(a:Int):Option (Bool):=
 (cmp_isNaN_int b).bind λ c=>
 cond (c) ((cmp_isNaN_int a).bind λ d=>
 some ((!d)||(decide (b<a)))) (some (decide (b<a)))
def QP(a:Int):Option (Bool):=
 some (!decide (a=a))
def u7(g:Int)(h:List Int):Nat->Int->Int->Option (Int)
 |0,_,_=>none
 |bS+1,a,b=>
  cond (decide (a<b)) (ew (α:=Int×Int) ((idx h (ax (xM (Hv (ax (a+b))) 1))).bind λ c=>
  (cmp_Less_int c g).bind λ d=>
  cond (d) (some (ax ((ax (xM (Hv (ax (a+b))) 1))+1),b)) (some (a,ax (xM (Hv (ax (a+b))) 1)))) λ((e,f):Int×Int)=>
  u7 g h bS e f) (some a)
def Lm(F:Nat)(b:List Int)(c:Int):Option (Int×Bool):=
 ew (α:=Int) (u7 c b F 0 (b.length:Int)) λ(a:Int)=>
 cond (decide (a<(b.length:Int))) ((idx b a).bind λ d=>
 cond (decide (d=c)) (some (a,true)) ((idx b a).bind λ e=>
 (QP e).bind λ f=>
 cond (f) ((QP c).bind λ g=>
 some (a,g)) (some (a,false)))) (some (a,false))
end I
namespace I
def wH(b:bj)(hE:List Int):Nat->(List (Int×Bool))->Int->Option (Way (Int) (List (Int×Bool)))
 |0,_,_=>none
 |bS+1,e,c=>
  cond (decide (c<(hE.length:Int))) ((idx hE c).bind λ d=>
  (idx b.H.Words (ax (d+2))).bind λ a=>
  cond ((decide (a<1))||(decide (b.H.Next<=a))) (some (.out 3)) (wH b hE bS (gf e a true) (ax (c+1)))) (some (.go e))
def F2(F:Nat)(a:bj):Option (Int):=
 (zo F (⟨(⟨a.H.Words,a.H.ak,a.H.aM,a.H.aX,a.H.aW,a.H.aS,a.H.Next⟩:aV),(⟨(⟨a.S.K.a6,a.S.K.aY,a.S.K.Fields,a.S.K.Names,a.S.K.aZ⟩:aO)⟩:b'),a.ak,a.aM,a.dP⟩:bj)).bind λ hE=>
 cm (α:=List (Int×Bool)) (wH a hE F [] 0) λ(b:List (Int×Bool))=>
 cond (decide ((b.length:Int)<(a.dP.length:Int))) (some 6) (some 0)
def Wk(a:Int):Option (Bool):=
 some (!decide (a=0))
def AJ(s_:List Int):Nat->Int->Option (Way (Int) (Unit))
 |0,_=>none
 |bS+1,a=>
  cond (decide (a<(s_.length:Int))) ((idx s_ a).bind λ b=>
  (Wk b).bind λ c=>
  cond (c) (some (.out a)) (AJ s_ bS (ax (a+1)))) (some (.go ()))
def QN(F:Nat)(s_:List Int):Option (Int):=
 cm (α:=Unit) (AJ s_ F 0) λ(_:Unit)=>
 some (-1)
def QJ(F:Nat)(s_:List Int):Option (Bool):=
 (QN F s_).bind λ a=>
 some (decide (0<=a))
def wJ(b:bj)(c:List Int):Nat->Int->Option (Way (Int) (Unit))
 |0,_=>none
 |eI+1,d=>
  cond (decide (d<(c.length:Int))) ((idx c d).bind λ e=>
  (idx b.H.Words e).bind λ a=>
  cond (!decide (a=0)) (cond (!((cH b.dP a).getD false)) (some (.out 5)) (wJ b c eI (ax (d+1)))) (wJ b c eI (ax (d+1)))) (some (.go ()))
def zp(F:Nat)(a:bj)(b:List Int):Nat->Int->Option (Way (Int) (Unit))
 |0,_=>none
 |bS+1,Ah=>
  cond (decide (Ah<(b.length:Int))) (dd (α:=Unit) ((idx b Ah).bind λ c=>
  (qM F (⟨(⟨a.H.Words,a.H.ak,a.H.aM,a.H.aX,a.H.aW,a.H.aS,a.H.Next⟩:aV),(⟨(⟨a.S.K.a6,a.S.K.aY,a.S.K.Fields,a.S.K.Names,a.S.K.aZ⟩:aO)⟩:b'),a.ak,a.aM,a.dP⟩:bj) c).bind λ d=>
  dd (α:=Unit) (wJ a d F 0) λ(_:Unit)=>
  some (.go ())) λ(_:Unit)=>
  zp F a b bS (ax (Ah+1))) (some (.go ()))
def F4(F:Nat)(a:bj):Option (Int):=
 (zo F (⟨(⟨a.H.Words,a.H.ak,a.H.aM,a.H.aX,a.H.aW,a.H.aS,a.H.Next⟩:aV),(⟨(⟨a.S.K.a6,a.S.K.aY,a.S.K.Fields,a.S.K.Names,a.S.K.aZ⟩:aO)⟩:b'),a.ak,a.aM,a.dP⟩:bj)).bind λ g=>
 cm (α:=Unit) (zp F a g F 0) λ(_:Unit)=>
 (cut a.H.Words 0 1).bind λ b=>
 (cut a.H.Words a.H.aX (ax (a.H.ak+1))).bind λ c=>
 (cut a.H.Words a.H.aW (a.H.Words.length:Int)).bind λ d=>
 (Hl F [b,c,d]).bind λ e=>
 (QJ F e).bind λ f=>
 cond (f) (some 1) (some 0)
def Oi(c:Int)(a:bj):Option (Bool):=
 (idx a.H.Words c).bind λ b=>
 (F1 (⟨(⟨a.H.Words,a.H.ak,a.H.aM,a.H.aX,a.H.aW,a.H.aS,a.H.Next⟩:aV),(⟨(⟨a.S.K.a6,a.S.K.aY,a.S.K.Fields,a.S.K.Names,a.S.K.aZ⟩:aO)⟩:b'),a.ak,a.aM,a.dP⟩:bj) b).bind λ d=>
 some d
def AI(s_:List Int)(a:bj):Nat->Int->Option (Way (Int) (Unit))
 |0,_=>none
 |bS+1,kE=>
  cond (decide (kE<(s_.length:Int))) ((idx s_ kE).bind λ b=>
  (Oi b (⟨(⟨a.H.Words,a.H.ak,a.H.aM,a.H.aX,a.H.aW,a.H.aS,a.H.Next⟩:aV),(⟨(⟨a.S.K.a6,a.S.K.aY,a.S.K.Fields,a.S.K.Names,a.S.K.aZ⟩:aO)⟩:b'),a.ak,a.aM,a.dP⟩:bj)).bind λ c=>
  cond (c) (some (.out kE)) (AI s_ a bS (ax (kE+1)))) (some (.go ()))
def QM(F:Nat)(s_:List Int)(a:bj):Option (Int):=
 cm (α:=Unit) (AI s_ a F 0) λ(_:Unit)=>
 some (-1)
def QI(F:Nat)(s_:List Int)(a:bj):Option (Bool):=
 (QM F s_ (⟨(⟨a.H.Words,a.H.ak,a.H.aM,a.H.aX,a.H.aW,a.H.aS,a.H.Next⟩:aV),(⟨(⟨a.S.K.a6,a.S.K.aY,a.S.K.Fields,a.S.K.Names,a.S.K.aZ⟩:aO)⟩:b'),a.ak,a.aM,a.dP⟩:bj)).bind λ b=>
 some (decide (0<=b))
def uo(F:Nat)(a:bj):Nat->Int->Option (Way (Int) (Unit))
 |0,_=>none
 |bS+1,c=>
  cond (decide (c<(a.H.aS.length:Int))) ((idx a.H.aS c).bind λ b=>
  cond (decide (0<c)) ((idx a.H.aS (ax (c-1))).bind λ d=>
  cond (decide (b<=d)) (some (.out 4)) (cond (!((cH a.dP b).getD false)) (some (.out 4)) ((F1 (⟨(⟨a.H.Words,a.H.ak,a.H.aM,a.H.aX,a.H.aW,a.H.aS,a.H.Next⟩:aV),(⟨(⟨a.S.K.a6,a.S.K.aY,a.S.K.Fields,a.S.K.Names,a.S.K.aZ⟩:aO)⟩:b'),a.ak,a.aM,a.dP⟩:bj) b).bind λ g=>
  cond (g) (some (.out 4)) ((qM F (⟨(⟨a.H.Words,a.H.ak,a.H.aM,a.H.aX,a.H.aW,a.H.aS,a.H.Next⟩:aV),(⟨(⟨a.S.K.a6,a.S.K.aY,a.S.K.Fields,a.S.K.Names,a.S.K.aZ⟩:aO)⟩:b'),a.ak,a.aM,a.dP⟩:bj) b).bind λ h=>
  cond (decide ((h.length:Int)=0)) (some (.out 4)) (uo F a bS (ax (c+1))))))) (cond (!((cH a.dP b).getD false)) (some (.out 4)) ((F1 (⟨(⟨a.H.Words,a.H.ak,a.H.aM,a.H.aX,a.H.aW,a.H.aS,a.H.Next⟩:aV),(⟨(⟨a.S.K.a6,a.S.K.aY,a.S.K.Fields,a.S.K.Names,a.S.K.aZ⟩:aO)⟩:b'),a.ak,a.aM,a.dP⟩:bj) b).bind λ e=>
  cond (e) (some (.out 4)) ((qM F (⟨(⟨a.H.Words,a.H.ak,a.H.aM,a.H.aX,a.H.aW,a.H.aS,a.H.Next⟩:aV),(⟨(⟨a.S.K.a6,a.S.K.aY,a.S.K.Fields,a.S.K.Names,a.S.K.aZ⟩:aO)⟩:b'),a.ak,a.aM,a.dP⟩:bj) b).bind λ f=>
  cond (decide ((f.length:Int)=0)) (some (.out 4)) (uo F a bS (ax (c+1))))))) (some (.go ()))
def wI(F:Nat)(a:bj):Nat->Int->Option (Way (Int) (Unit))
 |0,_=>none
 |eI+1,c=>
  cond (decide (c<(a.aM.length:Int))) ((idx a.aM c).bind λ b=>
  (Lm F a.H.aS b).bind λ d=>
  cond (!d.2) ((qM F (⟨(⟨a.H.Words,a.H.ak,a.H.aM,a.H.aX,a.H.aW,a.H.aS,a.H.Next⟩:aV),(⟨(⟨a.S.K.a6,a.S.K.aY,a.S.K.Fields,a.S.K.Names,a.S.K.aZ⟩:aO)⟩:b'),a.ak,a.aM,a.dP⟩:bj) b).bind λ e=>
  (QI F e (⟨(⟨a.H.Words,a.H.ak,a.H.aM,a.H.aX,a.H.aW,a.H.aS,a.H.Next⟩:aV),(⟨(⟨a.S.K.a6,a.S.K.aY,a.S.K.Fields,a.S.K.Names,a.S.K.aZ⟩:aO)⟩:b'),a.ak,a.aM,a.dP⟩:bj)).bind λ f=>
  cond (f) (some (.out 4)) (wI F a eI (ax (c+1)))) (wI F a eI (ax (c+1)))) (some (.go ()))
def F3(F:Nat)(a:bj):Option (Int):=
 cm (α:=Unit) (uo F a F 0) λ(_:Unit)=>
 cm (α:=Unit) (wI F a F 0) λ(_:Unit)=>
 some 0
end I
namespace I
def uq(F:Nat)(a:aV)(b:aO):Option ((Option bj)×Int):=
 (F5 (⟨a.Words,a.ak,a.aM,a.aX,a.aW,a.aS,a.Next⟩:aV)).bind λ e=>
 cond (!decide (e=0)) (some ((none:Option bj),e)) ((na F (⟨(⟨a.Words,a.ak,a.aM,a.aX,a.aW,a.aS,a.Next⟩:aV),(⟨(⟨b.a6,b.aY,b.Fields,b.Names,b.aZ⟩:aO)⟩:b'),[],[],[]⟩:bj) 1 a.aX).bind λ hE=>
 (na F (⟨(⟨a.Words,a.ak,a.aM,a.aX,a.aW,a.aS,a.Next⟩:aV),(⟨(⟨b.a6,b.aY,b.Fields,b.Names,b.aZ⟩:aO)⟩:b'),[],[],hE.2.2.dP⟩:bj) (ax (a.ak+1)) a.aW).bind λ c=>
 cond ((!hE.2.1)||(!c.2.1)) (some ((none:Option bj),1)) ((F2 F (⟨(⟨a.Words,a.ak,a.aM,a.aX,a.aW,a.aS,a.Next⟩:aV),(⟨(⟨b.a6,b.aY,b.Fields,b.Names,b.aZ⟩:aO)⟩:b'),hE.1,c.1,c.2.2.dP⟩:bj)).bind λ d=>
 cond (!decide (d=0)) (some ((none:Option bj),d)) ((F4 F (⟨(⟨a.Words,a.ak,a.aM,a.aX,a.aW,a.aS,a.Next⟩:aV),(⟨(⟨b.a6,b.aY,b.Fields,b.Names,b.aZ⟩:aO)⟩:b'),hE.1,c.1,c.2.2.dP⟩:bj)).bind λ f=>
 cond (!decide (f=0)) (some ((none:Option bj),f)) ((F3 F (⟨(⟨a.Words,a.ak,a.aM,a.aX,a.aW,a.aS,a.Next⟩:aV),(⟨(⟨b.a6,b.aY,b.Fields,b.Names,b.aZ⟩:aO)⟩:b'),hE.1,c.1,c.2.2.dP⟩:bj)).bind λ g=>
 cond (!decide (g=0)) (some ((none:Option bj),g)) (some ((some (⟨(⟨a.Words,a.ak,a.aM,a.aX,a.aW,a.aS,a.Next⟩:aV),(⟨(⟨b.a6,b.aY,b.Fields,b.Names,b.aZ⟩:aO)⟩:b'),hE.1,c.1,c.2.2.dP⟩:bj)),0))))))
end I
namespace I
def jZ(F:Nat)(b:aV)(a:aO):Option ((Option bj)×Int):=
 (oE F (⟨a.a6,a.aY,a.Fields,a.Names,a.aZ⟩:aO)).bind λ c=>
 cond (!decide (c=0)) (some ((none:Option bj),c)) ((uq F (⟨b.Words,b.ak,b.aM,b.aX,b.aW,b.aS,b.Next⟩:aV) (⟨a.a6,a.aY,a.Fields,a.Names,a.aZ⟩:aO)).bind λ d=>
 some (d.1,d.2))
def QH(s_:List Int):Option (List Int):=
 (bI 8 ([]:List Int) s_).bind λ a=>
 some a
def m'(a:aV):Option (aV):=
 (QH a.Words).bind λ b=>
 (QH a.aS).bind λ c=>
 some (⟨b,a.ak,a.aM,a.aX,a.aW,c,a.Next⟩:aV)
def Wi(a:aV)(i:Int)(b:Int)(j:Bool):Option (Int×Bool×aV):=
 cond (j) (cond (decide ((ax ((ax ((ax (a.ak+a.aM))+1))-a.aW))<(ax (3+b)))) (some (0,false,(⟨a.Words,a.ak,a.aM,a.aX,a.aW,a.aS,a.Next⟩:aV))) ((idx a.Words a.aW).bind λ k=>
 (some (a.Words.set (a.aW).toNat i)).bind λ c=>
 (idx c (ax (a.aW+1))).bind λ e4=>
 (some (c.set (ax (a.aW+1)).toNat b)).bind λ d=>
 (idx d (ax (a.aW+2))).bind λ l=>
 (some (d.set (ax (a.aW+2)).toNat a.Next)).bind λ g=>
 some (a.aW,true,(⟨g,a.ak,a.aM,a.aX,ax (a.aW+(ax (3+b))),a.aS,ax (a.Next+1)⟩:aV)))) (cond (decide ((ax ((ax (a.ak+1))-a.aX))<(ax (3+b)))) (some (0,false,(⟨a.Words,a.ak,a.aM,a.aX,a.aW,a.aS,a.Next⟩:aV))) ((idx a.Words a.aX).bind λ m=>
 (some (a.Words.set (a.aX).toNat i)).bind λ e=>
 (idx e (ax (a.aX+1))).bind λ n=>
 (some (e.set (ax (a.aX+1)).toNat b)).bind λ f=>
 (idx f (ax (a.aX+2))).bind λ o=>
 (some (f.set (ax (a.aX+2)).toNat a.Next)).bind λ h=>
 some (a.aX,true,(⟨h,a.ak,a.aM,ax (a.aX+(ax (3+b))),a.aW,a.aS,ax (a.Next+1)⟩:aV))))
def ahB(F:Nat)(a:aV)(d:aO)(i:Int)(j:Int)(k:Bool):Option (aV×Int×Int):=
 (jZ F (⟨a.Words,a.ak,a.aM,a.aX,a.aW,a.aS,a.Next⟩:aV) (⟨d.a6,d.aY,d.Fields,d.Names,d.aZ⟩:aO)).bind λ g=>
 ew (α:=Int) (cond (decide (g.2=0)) ((g.1).bind λ e=>
 (Wj (⟨(⟨e.S.K.a6,e.S.K.aY,e.S.K.Fields,e.S.K.Names,e.S.K.aZ⟩:aO)⟩:b') i j).bind λ h=>
 some h) (some g.2)) λ(f:Int)=>
 cond (!decide (f=0)) (some ((⟨[],0,0,0,0,[],0⟩:aV),0,f)) ((m' (⟨a.Words,a.ak,a.aM,a.aX,a.aW,a.aS,a.Next⟩:aV)).bind λ b=>
 (Wi (⟨b.Words,b.ak,b.aM,b.aX,b.aW,b.aS,b.Next⟩:aV) i j k).bind λ c=>
 cond (!c.2.1) (some ((⟨[],0,0,0,0,[],0⟩:aV),0,8)) (some ((⟨c.2.2.Words,b.ak,b.aM,c.2.2.aX,c.2.2.aW,b.aS,c.2.2.Next⟩:aV),c.1,0)))
end I
namespace I
def vM(a:List Int)(b:List Int):Nat->Int->Option (Way (Bool) (Unit))
 |0,_=>none
 |bS+1,dg=>
  cond (decide (dg<(a.length:Int))) ((idx a dg).bind λ c=>
  (idx b dg).bind λ d=>
  cond (!decide (c=d)) (some (.out false)) (vM a b bS (ax (dg+1)))) (some (.go ()))
def pb(F:Nat)(a:List Int)(b:List Int):Option (Bool):=
 cond (!decide ((a.length:Int)=(b.length:Int))) (some false) (cm (α:=Unit) (vM a b F 0) λ(_:Unit)=>
 some true)
def Ti(F:Nat)(a:aV)(b:aV):Option (Bool):=
 (pb F a.Words b.Words).bind λ c=>
 cond ((((c&&(decide (a.ak=b.ak)))&&(decide (a.aM=b.aM)))&&(decide (a.aX=b.aX)))&&(decide (a.aW=b.aW))) ((pb F a.aS b.aS).bind λ d=>
 some (d&&(decide (a.Next=b.Next)))) (some false)
def BF(F:Nat)(a:aV)(e_:Int)(j:Int)(b:aV):Option (Bool):=
 ew (α:=(List Int)×Int×Int×Int×Int×(List Int)×Int) (cond (!decide (j=0)) (some ([],0,0,0,0,[],0)) (some (b.Words,b.ak,b.aM,b.aX,b.aW,b.aS,b.Next))) λ((c,d,e,f,g,h,i):(List Int)×Int×Int×Int×Int×(List Int)×Int)=>
 cond (decide (e_=j)) ((Ti F (⟨a.Words,a.ak,a.aM,a.aX,a.aW,a.aS,a.Next⟩:aV) (⟨c,d,e,f,g,h,i⟩:aV)).bind λ k=>
 some k) (some false)
end I
namespace I
def Ff(b:aO)(a:Int):Option (Bool):=
 some ((decide (1<=a))&&(decide (a<(ax (3+(b.a6.length:Int))))))
def Fc(d:aO)(b:Int)(c:Int):Option (Bool):=
 (fX c 0 500).bind λ e=>
 cond (e) (cond (decide (b<3)) (some true) ((idx d.Fields (ax (b-3))).bind λ a=>
 some (decide (c=(a.length:Int))))) (some false)
def tO(d:aO)(a:Int)(e:Int):Option (Bool):=
 cond (decide (a=2)) (some true) (cond (decide (3<=a)) ((idx d.Fields (ax (a-3))).bind λ b=>
 (idx b e).bind λ c=>
 some (!decide (c.Kind.Kind=1))) (some false))
def yO(c:aV)(a:aO)(e:Int):Nat->(List Int)->Int->Option (Way ((List Int)×Bool) ((List Int)×Int))
 |0,_,_=>none
 |bS+1,d,b=>
  cond (decide (b<e)) (cond (decide (e<(ax (b+3)))) (some (.out ([],false))) ((idx c.Words b).bind λ f=>
  (Ff (⟨a.a6,a.aY,a.Fields,a.Names,a.aZ⟩:aO) f).bind λ g=>
  cond (!g) (some (.out ([],false))) ((idx c.Words b).bind λ h=>
  (idx c.Words (ax (b+1))).bind λ i=>
  (Fc (⟨a.a6,a.aY,a.Fields,a.Names,a.aZ⟩:aO) h i).bind λ j=>
  cond (!j) (some (.out ([],false))) ((bI 8 d [b]).bind λ k=>
  (idx c.Words (ax (b+1))).bind λ l=>
  yO c a e bS k (ax (b+(ax (3+l)))))))) (some (.go (d,b)))
def rS(F:Nat)(e:aV)(f:aO)(a:Int)(d:Int):Option ((List Int)×Bool):=
 cm (α:=(List Int)×Int) (yO e f d F [] a) λ((b,c):(List Int)×Int)=>
 some (b,decide (c=d))
def B3(a:List Int)(c:Int):Nat->Int->Option (Way (Bool) (Unit))
 |0,_=>none
 |bS+1,b=>
  cond (decide (b<(a.length:Int))) ((idx a b).bind λ d=>
  cond (decide (d=c)) (some (.out true)) (B3 a c bS (ax (b+1)))) (some (.go ()))
def lk(F:Nat)(a:List Int)(b:Int):Option (Bool):=
 cm (α:=Unit) (B3 a b F 0) λ(_:Unit)=>
 some false
def vK(at_:Int)(c:aV)(a:aO):Nat->(List Int)->Int->Option (List Int)
 |0,_,_=>none
 |bS+1,d,b=>
  (idx c.Words (ax (at_+1))).bind λ e=>
  cond (decide (b<e)) (ew (α:=List Int) ((idx c.Words at_).bind λ f=>
  (tO (⟨a.a6,a.aY,a.Fields,a.Names,a.aZ⟩:aO) f b).bind λ g=>
  cond (g) ((bI 8 d [ax ((ax (at_+3))+b)]).bind λ h=>
  some h) (some d)) λ(i:List Int)=>
  vK at_ c a bS i (ax (b+1))) (some d)
def pa(F:Nat)(b:aV)(c:aO)(at_:Int):Option (List Int):=
 ew (α:=List Int) (vK at_ b c F [] 0) λ(a:List Int)=>
 some a
def rT(F:Nat)(a:aV)(b:aO):Option ((List Int)×(List Int)×Bool):=
 (rS F (⟨a.Words,a.ak,a.aM,a.aX,a.aW,a.aS,a.Next⟩:aV) (⟨b.a6,b.aY,b.Fields,b.Names,b.aZ⟩:aO) 1 a.aX).bind λ c=>
 (rS F (⟨a.Words,a.ak,a.aM,a.aX,a.aW,a.aS,a.Next⟩:aV) (⟨b.a6,b.aY,b.Fields,b.Names,b.aZ⟩:aO) (ax (a.ak+1)) a.aW).bind λ hE=>
 some (c.1,hE.1,c.2&&hE.2)
end I
namespace I
def BK(a:aV)(b:List Int):Nat->Int->Option (Way (Int) (Unit))
 |0,_=>none
 |bS+1,c=>
  cond (decide (c<(b.length:Int))) ((idx b c).bind λ d=>
  (idx a.Words (ax (d+2))).bind λ f=>
  (fX f 1 (ax (a.Next-1))).bind λ e=>
  cond (!e) (some (.out 3)) (BK a b bS (ax (c+1)))) (some (.go ()))
def BL(a:aV)(b:List Int)(c:Int):Nat->Int->Option (Way (Int) (Unit))
 |0,_=>none
 |hA+1,d=>
  cond (decide (d<c)) ((idx b c).bind λ e=>
  (idx a.Words (ax (e+2))).bind λ f=>
  (idx b d).bind λ g=>
  (idx a.Words (ax (g+2))).bind λ h=>
  cond (decide (f=h)) (some (.out 6)) (BL a b c hA (ax (d+1)))) (some (.go ()))
def yF(F:Nat)(c:aV)(a:List Int):Nat->Int->Option (Way (Int) (Unit))
 |0,_=>none
 |eI+1,b=>
  cond (decide (b<(a.length:Int))) (dd (α:=Unit) (dd (α:=Unit) (BL c a b F 0) λ(_:Unit)=>
  some (.go ())) λ(_:Unit)=>
  yF F c a eI (ax (b+1))) (some (.go ()))
def yG(F:Nat)(c:aV)(d:List Int)(a:List Int):Nat->Int->Option (Way (Int) (Unit))
 |0,_=>none
 |uB+1,b=>
  cond (decide (b<(a.length:Int))) ((idx a b).bind λ e=>
  (idx c.Words e).bind λ f=>
  cond (!decide (f=0)) ((idx a b).bind λ g=>
  (idx c.Words g).bind λ h=>
  (lk F d h).bind λ i=>
  cond (!i) (some (.out 5)) (yG F c d a uB (ax (b+1)))) (yG F c d a uB (ax (b+1)))) (some (.go ()))
def BM(F:Nat)(a:aV)(b:aO)(c:List Int):Nat->Int->Option (Way (Int) (Unit))
 |0,_=>none
 |mh+1,d=>
  cond (decide (d<(c.length:Int))) (dd (α:=Unit) ((idx c d).bind λ e=>
  (pa F (⟨a.Words,a.ak,a.aM,a.aX,a.aW,a.aS,a.Next⟩:aV) (⟨b.a6,b.aY,b.Fields,b.Names,b.aZ⟩:aO) e).bind λ f=>
  dd (α:=Unit) (yG F a c f F 0) λ(_:Unit)=>
  some (.go ())) λ(_:Unit)=>
  BM F a b c mh (ax (d+1))) (some (.go ()))
def vI(a:aV):Nat->Int->Option (Way (Int) (Unit))
 |0,_=>none
 |zE+1,b=>
  cond (decide (b<(a.Words.length:Int))) ((idx a.Words b).bind λ c=>
  cond (!decide (c=0)) (cond (decide (b=0)) (some (.out 1)) ((fX b a.aX a.ak).bind λ d=>
  cond (d||(decide (a.aW<=b))) (some (.out 1)) (vI a zE (ax (b+1))))) (vI a zE (ax (b+1)))) (some (.go ()))
def qq(F:Nat)(a:aV)(b:aO)(d:(List Int)×(List Int)×Bool):Nat->Int->Option (Way (Int) (Unit))
 |0,_=>none
 |OW+1,c=>
  cond (decide (c<(a.aS.length:Int))) (cond (decide (0<c)) ((idx a.aS c).bind λ e=>
  (idx a.aS (ax (c-1))).bind λ f=>
  cond (decide (e<=f)) (some (.out 4)) ((idx a.aS c).bind λ g=>
  (lk F d.2.1 g).bind λ h=>
  cond (!h) (some (.out 4)) ((idx a.aS c).bind λ i=>
  (pa F (⟨a.Words,a.ak,a.aM,a.aX,a.aW,a.aS,a.Next⟩:aV) (⟨b.a6,b.aY,b.Fields,b.Names,b.aZ⟩:aO) i).bind λ j=>
  cond (decide ((j.length:Int)=0)) (some (.out 4)) (qq F a b d OW (ax (c+1)))))) ((idx a.aS c).bind λ k=>
  (lk F d.2.1 k).bind λ l=>
  cond (!l) (some (.out 4)) ((idx a.aS c).bind λ m=>
  (pa F (⟨a.Words,a.ak,a.aM,a.aX,a.aW,a.aS,a.Next⟩:aV) (⟨b.a6,b.aY,b.Fields,b.Names,b.aZ⟩:aO) m).bind λ n=>
  cond (decide ((n.length:Int)=0)) (some (.out 4)) (qq F a b d OW (ax (c+1)))))) (some (.go ()))
def rP(F:Nat)(a:aV)(d:(List Int)×(List Int)×Bool)(e:Int)(b:List Int):Nat->Int->Option (Way (Int) (Unit))
 |0,_=>none
 |OX+1,c=>
  cond (decide (c<(b.length:Int))) ((idx b c).bind λ f=>
  (idx a.Words f).bind λ g=>
  (fX g 1 a.ak).bind λ h=>
  cond (h) ((idx d.2.1 e).bind λ i=>
  (lk F a.aS i).bind λ j=>
  cond (!j) (some (.out 4)) (rP F a d e b OX (ax (c+1)))) (rP F a d e b OX (ax (c+1)))) (some (.go ()))
def tJ(F:Nat)(a:aV)(b:aO)(c:(List Int)×(List Int)×Bool):Nat->Int->Option (Way (Int) (Unit))
 |0,_=>none
 |XI+1,d=>
  cond (decide (d<(c.2.1.length:Int))) (dd (α:=Unit) ((idx c.2.1 d).bind λ e=>
  (pa F (⟨a.Words,a.ak,a.aM,a.aX,a.aW,a.aS,a.Next⟩:aV) (⟨b.a6,b.aY,b.Fields,b.Names,b.aZ⟩:aO) e).bind λ f=>
  dd (α:=Unit) (rP F a c d f F 0) λ(_:Unit)=>
  some (.go ())) λ(_:Unit)=>
  tJ F a b c XI (ax (d+1))) (some (.go ()))
def Fb(F:Nat)(a:aV)(b:aO):Option (Int):=
 (fX a.ak 3 2000).bind λ f=>
 cond (!f) (some 3) ((fX a.aM 3 2000).bind λ g=>
 cond (!g) (some 3) (cond (!decide ((a.Words.length:Int)=(ax ((ax (1+a.ak))+a.aM)))) (some 1) ((fX a.aX 1 (ax (a.ak+1))).bind λ h=>
 cond (!h) (some 3) ((fX a.aW (ax (a.ak+1)) (ax ((ax (a.ak+a.aM))+1))).bind λ i=>
 cond ((!i)||(decide (a.Next<1))) (some 3) ((rT F (⟨a.Words,a.ak,a.aM,a.aX,a.aW,a.aS,a.Next⟩:aV) (⟨b.a6,b.aY,b.Fields,b.Names,b.aZ⟩:aO)).bind λ c=>
 cond (!c.2.2) (some 1) ((bI 8 ([]:List Int) c.1).bind λ d=>
 (bI 8 d c.2.1).bind λ e=>
 cm (α:=Unit) (BK a e F 0) λ(_:Unit)=>
 cm (α:=Unit) (yF F a e F 0) λ(_:Unit)=>
 cm (α:=Unit) (BM F a b e F 0) λ(_:Unit)=>
 cm (α:=Unit) (vI a F 0) λ(_:Unit)=>
 cm (α:=Unit) (qq F a b c F 0) λ(_:Unit)=>
 cm (α:=Unit) (tJ F a b c F 0) λ(_:Unit)=>
 some 0))))))
def yM(F:Nat)(b:aV)(a:aO):Option (Int):=
 (tM F (⟨a.a6,a.aY,a.Fields,a.Names,a.aZ⟩:aO)).bind λ c=>
 cond (decide (c=0)) ((Fb F (⟨b.Words,b.ak,b.aM,b.aX,b.aW,b.aS,b.Next⟩:aV) (⟨a.a6,a.aY,a.Fields,a.Names,a.aZ⟩:aO)).bind λ d=>
 some d) (some c)
end I
namespace I
def ade(a:aV):Option (Int):=
 some (ax ((ax ((ax ((ax (a.ak+a.aM))+1))-a.aW))- (ax (a.aX-1))))
def apP(F:Nat)(a:aV)(b:aO):Option (Int×Int):=
 (jZ F (⟨a.Words,a.ak,a.aM,a.aX,a.aW,a.aS,a.Next⟩:aV) (⟨b.a6,b.aY,b.Fields,b.Names,b.aZ⟩:aO)).bind λ c=>
 cond (!decide (c.2=0)) (some (0,c.2)) ((ade (⟨a.Words,a.ak,a.aM,a.aX,a.aW,a.aS,a.Next⟩:aV)).bind λ d=>
 some (d,0))
def adM(a:aV):Option (Int):=
 some (ax ((ax ((ax ((ax ((ax (a.ak+a.aM))+1))-a.aW))-a.aX))+1))
end I
namespace I
def Sy(at_:Int)(a:bj):Option (Bool):=
 cond (!decide (at_=0)) ((F0 (⟨(⟨a.H.Words,a.H.ak,a.H.aM,a.H.aX,a.H.aW,a.H.aS,a.H.Next⟩:aV),(⟨(⟨a.S.K.a6,a.S.K.aY,a.S.K.Fields,a.S.K.Names,a.S.K.aZ⟩:aO)⟩:b'),a.ak,a.aM,a.dP⟩:bj) at_).bind λ b=>
 some (!b)) (some false)
def AK(s_:List Int)(a:bj):Nat->Int->Option (Way (Int) (Unit))
 |0,_=>none
 |bS+1,kE=>
  cond (decide (kE<(s_.length:Int))) ((idx s_ kE).bind λ b=>
  (Sy b (⟨(⟨a.H.Words,a.H.ak,a.H.aM,a.H.aX,a.H.aW,a.H.aS,a.H.Next⟩:aV),(⟨(⟨a.S.K.a6,a.S.K.aY,a.S.K.Fields,a.S.K.Names,a.S.K.aZ⟩:aO)⟩:b'),a.ak,a.aM,a.dP⟩:bj)).bind λ c=>
  cond (c) (some (.out kE)) (AK s_ a bS (ax (kE+1)))) (some (.go ()))
def QO(F:Nat)(s_:List Int)(a:bj):Option (Int):=
 cm (α:=Unit) (AK s_ a F 0) λ(_:Unit)=>
 some (-1)
def QK(F:Nat)(s_:List Int)(a:bj):Option (Bool):=
 (QO F s_ (⟨(⟨a.H.Words,a.H.ak,a.H.aM,a.H.aX,a.H.aW,a.H.aS,a.H.Next⟩:aV),(⟨(⟨a.S.K.a6,a.S.K.aY,a.S.K.Fields,a.S.K.Names,a.S.K.aZ⟩:aO)⟩:b'),a.ak,a.aM,a.dP⟩:bj)).bind λ b=>
 some (decide (0<=b))
def vw(F:Nat)(a:bj)(b:List Int):Option (Int):=
 cond (decide (1000<(b.length:Int))) (some 2) ((QK F b (⟨(⟨a.H.Words,a.H.ak,a.H.aM,a.H.aX,a.H.aW,a.H.aS,a.H.Next⟩:aV),(⟨(⟨a.S.K.a6,a.S.K.aY,a.S.K.Fields,a.S.K.Names,a.S.K.aZ⟩:aO)⟩:b'),a.ak,a.aM,a.dP⟩:bj)).bind λ c=>
 cond (c) (some 5) (some 0))
def qt(F:Nat)(a:List Int)(c:(List Int)×(List Int)×Bool):Nat->Int->Option (Way (Int) (Unit))
 |0,_=>none
 |bS+1,b=>
  cond (decide (b<(a.length:Int))) ((idx a b).bind λ d=>
  cond (!decide (d=0)) ((idx a b).bind λ e=>
  (lk F c.1 e).bind λ f=>
  cond (!f) ((idx a b).bind λ g=>
  (lk F c.2.1 g).bind λ h=>
  cond (!h) (some (.out 5)) (qt F a c bS (ax (b+1)))) (qt F a c bS (ax (b+1)))) (qt F a c bS (ax (b+1)))) (some (.go ()))
def yK(F:Nat)(a:aV)(b:aO)(c:List Int):Option (Int):=
 cond (decide (1000<(c.length:Int))) (some 2) ((rT F (⟨a.Words,a.ak,a.aM,a.aX,a.aW,a.aS,a.Next⟩:aV) (⟨b.a6,b.aY,b.Fields,b.Names,b.aZ⟩:aO)).bind λ d=>
 cm (α:=Unit) (qt F c d F 0) λ(_:Unit)=>
 some 0)
def S8(F:Nat)(a:aV)(b:aO)(d:List Int):Option (Int):=
 (yM F (⟨a.Words,a.ak,a.aM,a.aX,a.aW,a.aS,a.Next⟩:aV) (⟨b.a6,b.aY,b.Fields,b.Names,b.aZ⟩:aO)).bind λ c=>
 cond (decide (c=0)) ((yK F (⟨a.Words,a.ak,a.aM,a.aX,a.aW,a.aS,a.Next⟩:aV) (⟨b.a6,b.aY,b.Fields,b.Names,b.aZ⟩:aO) d).bind λ hE=>
 some hE) (some c)
end I
namespace I
def adN(b:List Int)(c:Int):Nat->Int->Option (Way (Int) (Unit))
 |0,_=>none
 |bS+1,a=>
  cond (decide (a<(b.length:Int))) ((idx b a).bind λ d=>
  cond (decide (d=c)) (some (.out a)) (adN b c bS (ax (a+1)))) (some (.go ()))
def B6(F:Nat)(a:List Int)(b:Int):Option (Int):=
 cm (α:=Unit) (adN a b F 0) λ(_:Unit)=>
 some (-1)
def Im(F:Nat)(at_:Int)(c:aV)(a:List Int):Option (List Int):=
 (fX at_ 1 c.ak).bind λ d=>
 cond (d) ((lk F a at_).bind λ e=>
 cond (!e) ((bI 8 a [at_]).bind λ b=>
 some b) (some a)) (some a)
end I
namespace I
def yy(F:Nat)(at_:Int)(b:List Int):Option (Int×(List Int)):=
 cond (decide (at_=0)) (some (0,b)) ((B6 F b at_).bind λ c=>
 cond (decide (c<0)) ((bI 8 b [at_]).bind λ a=>
 some (ax ((ax ((a.length:Int)-1))+1),a)) (some (ax (c+1),b)))
def adG(F:Nat)(c:List Int):Nat->(List Int)->(List Int)->Int->Option ((List Int)×(List Int))
 |0,_,_,_=>none
 |bS+1,g,a,d=>
  cond (decide (d<(c.length:Int))) ((idx c d).bind λ e=>
  (yy F e a).bind λ b=>
  (bI 8 g [b.1]).bind λ f=>
  adG F c bS f b.2 (ax (d+1))) (some (g,a))
def adH(F:Nat)(e:aV)(a:aO)(f:Int):Nat->(List Int)->(List Int)->Int->Option ((List Int)×(List Int))
 |0,_,_,_=>none
 |hA+1,b,h,g=>
  (idx e.Words (ax (f+1))).bind λ i=>
  cond (decide (g<i)) (ew (α:=(List Int)×(List Int)) ((idx e.Words (ax ((ax (f+3))+g))).bind λ c=>
  ew (α:=(List Int)×Int) ((idx e.Words f).bind λ j=>
  (tO (⟨a.a6,a.aY,a.Fields,a.Names,a.aZ⟩:aO) j g).bind λ k=>
  cond (k) ((yy F c h).bind λ d=>
  some (d.2,d.1)) (some (h,c))) λ((l,m):(List Int)×Int)=>
  (bI 8 b [m]).bind λ n=>
  some (n,l)) λ((o,p):(List Int)×(List Int))=>
  adH F e a f hA o p (ax (g+1))) (some (b,h))
def tD(F:Nat)(a:aV)(n:aO):Nat->(List Int)->(List Int)->Int->Option ((List Int)×(List Int))
 |0,_,_,_=>none
 |eI+1,b,c,e=>
  cond (decide (e<(c.length:Int))) (ew (α:=(List Int)×(List Int)) ((idx c e).bind λ d=>
  (idx a.Words d).bind λ f=>
  (idx a.Words (ax (d+1))).bind λ g=>
  (idx a.Words (ax (d+2))).bind λ h=>
  (bI 8 b [f,g,h]).bind λ i=>
  ew (α:=(List Int)×(List Int)) (adH F a n d F i c 0) λ((j,k):(List Int)×(List Int))=>
  some (j,k)) λ((l,m):(List Int)×(List Int))=>
  tD F a n eI l m (ax (e+1))) (some (b,c))
def yx(F:Nat)(d:aV)(e:aO)(f:List Int):Option (List Int):=
 ew (α:=(List Int)×(List Int)) (adG F f F [] [] 0) λ((a,b):(List Int)×(List Int))=>
 ew (α:=(List Int)×(List Int)) (tD F d e F a b 0) λ((c,g):(List Int)×(List Int))=>
 some c
def E8(F:Nat)(c:aV)(b:aO)(g:List Int)(a:aV)(d:List Int):Option (Bool):=
 (yM F (⟨a.Words,a.ak,a.aM,a.aX,a.aW,a.aS,a.Next⟩:aV) (⟨b.a6,b.aY,b.Fields,b.Names,b.aZ⟩:aO)).bind λ h=>
 cond (decide (h=0)) ((yK F (⟨a.Words,a.ak,a.aM,a.aX,a.aW,a.aS,a.Next⟩:aV) (⟨b.a6,b.aY,b.Fields,b.Names,b.aZ⟩:aO) d).bind λ i=>
 cond ((decide (i=0))&&(decide ((g.length:Int)=(d.length:Int)))) ((yx F (⟨c.Words,c.ak,c.aM,c.aX,c.aW,c.aS,c.Next⟩:aV) (⟨b.a6,b.aY,b.Fields,b.Names,b.aZ⟩:aO) g).bind λ e=>
 (yx F (⟨a.Words,a.ak,a.aM,a.aX,a.aW,a.aS,a.Next⟩:aV) (⟨b.a6,b.aY,b.Fields,b.Names,b.aZ⟩:aO) d).bind λ j=>
 (pb F e j).bind λ f=>
 some f) (some false)) (some false)
end I
namespace Go.Proofs.YteeliipnilghaaaGreat
open Go Go.RowKit ay I bc
@[reducible] noncomputable def aiL(F:Nat):h_ bs:=⟨[.p (.B 0),.p (.i .i64)],[.c 117 [.l 134,.M 1,.l 3],.m 9 3],[.p (.R 2)],[.c 117 [.l 134,.M 1,.l 3],.m 9 3,.r 136 false],List I.Field,
  λ d=>uI F ⟨d.2.1.1,d.2.2.1,d.2.1.2.2.1⟩ d.1.2.1,λ d r=>(((),()),((d.2.1.1,(),d.2.1.2.2.1,()),d.2.2.1,r,()))⟩
@[reducible] noncomputable def aiM(F:Nat):h_ bs:=⟨[.p (.B 0),.p (.i .i64)],[.c 117 [.l 134,.M 1,.l 3],.m 9 3],[.p (.R 2),.p (.R 3)],[.c 117 [.l 134,.M 1,.l 3],.m 9 3,.r 9 false,.r 166 false],List (List UInt8)×List I.Target,
  λ d=>DG F ⟨d.2.1.1,d.2.2.1,d.2.1.2.2.1⟩ d.1.2.1,λ d r=>(((),(),()),((d.2.1.1,(),d.2.1.2.2.1,()),d.2.2.1,r.1,r.2,()))⟩
noncomputable def MD(F:Nat):cW aG:=⟨(83,(aiL F).run aG)::(82,(aiM F).run aG)::apX.ce,[]⟩
end Go.Proofs.YteeliipnilghaaaGreat
namespace Go.Proofs.YteeliipnilghaaaGreat
open Go Go.RowKit ay
set_option maxHeartbeats 4000000
set_option maxRecDepth 20000
theorem aeu{W:World}{X:List Nat}{F:Nat}{b:I.bt}{B:Int}{r:List Int}{k:Nat}{l:iK}{m:Nat}{n:Nat}{f:iK}{i:Nat}{M0:List Nat}(c:bz W M0 X W [] [bF.jm k [.q l m b.l,.map (some n),.q f i b.dB],cv I.kI l m b.l,bF.map nj (Value.int .i64) n b.b3,cv (fk .i64) f i b.dB])(h:I.sD F b B=some r) :
 Calls Tryz.prog 114 [.dl k,.i B].toArray W (λ e w'=>∃p:Option Addr,∃q:Nat,∃s:List Value,e= .returned (.q p q r)/\bz W M0 X w' [bb.row 3 1 (.q p q r) r s] [bF.rows (fk .i64) s r]):=by
 refine enter Tryz.func114 rfl Tryz.ntmps114 rfl λ a ad=>?_;rw[I.sD]at h;refine qF [] [] ad λ a ad=>qF [] [(5,.slice none 0 0)] ad λ a ad=>wp_seq_k λ K R=>?_;have c:=c.KF (α:=Int) 3 1;have c:=c.more (y:=bF.rows (fk .i64) [] []) rfl;obtain⟨C,h,D⟩:=I.fY h
 refine M_ (λ a w=>∃(t:iK)(u:Nat)(j:E7)(A:o8),Fr ⟨20,[]⟩ [(5,.q t u j)] a/\bz W M0 X w [bb.row 3 1 (.q t u j) j A] [bF.rows (fk .i64) A j,bF.jm k [.q l m b.l,.map (some n),.q f i b.dB],cv I.kI l m b.l,bF.map nj (Value.int .i64) n b.b3,cv (fk .i64) f i b.dB]/\C=j) (λ K wo=>?_) ?_
 ·clear D;refine TJ (λ(O:Nat) a w=>∃(o:iK)(Fs:Nat)(g:E7)(v:o8)(d:Int),Fr ⟨20,[]⟩ [(0,.dl k),(1,.i d),(5,.q o Fs g)] a/\bz W M0 X w [bb.row 3 1 (.q o Fs g) g v] [bF.rows (fk .i64) v g,bF.jm k [.q l m b.l,.map (some n),.q f i b.dB],cv I.kI l m b.l,bF.map nj (Value.int .i64) n b.b3,cv (fk .i64) f i b.dB]/\I.sE b O g d=some C) F ⟨none,0,[],[],B,ad.cut,c,h⟩ ?_ ?_
  ·rintro a w ⟨o,Fs,g,v,d,ad,c,h⟩;exact absurd h (by simp[I.sE])
  rintro O a w ⟨o,Fs,g,v,d,ad,c,h⟩ K S;rw[I.sE]at h;refine wp_seq_k λ K U=>qF [] [(7,.bool (decide (0<=d)))] ad λ a ad=>Na (ad.g rfl) h (λ E h=>?_) (λ E h=>?_)
  ·refine wp_skip<|U _ _<|wp_seq_k λ K V=>wp_block<|pj<|lq 2 [] [(15,.q o Fs g),(16,.i d)] ad λ a ad=>ajY (cs:=[.i d]) wn (ES (vs:=[(0,.i d)]) Tryz.underlying22 Tryz.sizeOf3 Tryz.zeroValue3 rfl rfl rfl ⟨⟨(ad.g rfl),rfl⟩,trivial⟩ (by kernel_rfl)) ad c rfl rfl λ a Y w _ ad c=>?_;obtain⟨P,G,h⟩:=I.fY h;refine Lg (T:=(fk .i64)) (ml:=[d]) 1 0 0 c rfl rfl rfl Tryz.underlying22 aBx rfl rfl G rfl rfl ⟨_,_,rfl,rfl,rfl⟩ wn rfl (ad.g rfl) (ad.g rfl) ad rfl rfl λ a x z H w ad c=>?_
   refine lq 1 [] [(5,.q x z P)] ad λ a ad=>wpList_nil (V _ _ ?_);refine pj<|tT 5 [0,2] [(11,.q f i b.dB),(12,.i d)] [k,2] (hl (c.d 2 rfl).2.2 gK) ad λ a ad=>?_;obtain⟨Q,J,h⟩:=I.fY h;obtain⟨L,M,_,rfl,N⟩:=D7 _ (c.d 5 rfl) J;refine fS wn (qi Tryz.underlying22 Tryz.sizeOf3 rfl (ad.g rfl) (ad.g rfl) L M) ad rfl rfl λ a ad=>tT 2 [0,0] [(1,.i Q)] [dD f,fP f+(d).toNat*1] (hl N gK) ad λ a ad=>wpList_nil ?_;exact S _ _ ⟨x,z,P,H,Q,ad.cut,c.hZ [0,2,3,4,5],h⟩
  refine wp_exit<|tx (tx (HX ?_));exact wo _ _ ⟨o,Fs,g,v,ad.cut,c,(os h)⟩
 rintro a w ⟨t,u,j,A,ad,c,aA⟩;subst C;have h:=D;clear D;refine R _ _<|Ly [] [(4,.q t u j)] ad λ a ad=>wp_ret ?_;obtain rfl:=oi h;refine Av Tryz.results114 ad rfl ?_;exact⟨t,u,A,rfl,c.u6 [0] [0]⟩
theorem aev{W:World}{X:List Nat}{s_:List Int}{r:Unit}{c:iK}{d:Nat}{M0:List Nat}(f:bz W M0 X W [] [cv (fk .i64) c d s_])(h:I.Ll s_=some r) :
 Calls Tryz.prog 116 [.q c d s_].toArray W (λ e w'=>∃g:Nat,e= .returned (.func (.func 144) #[] #[.dl g])/\bz W M0 X w' [bb.ck g 22 [.q c d s_]] []):=by
 refine enter Tryz.func116 rfl Tryz.ntmps116 rfl λ a ad=>?_;clear h;refine wp_seq_k λ K wm=>pj<|Ak (cs:=[.q c d s_]) wn (Sp rfl rfl (ad.g rfl)) ad f rfl rfl λ a b w _ ad f=>lq 1 [] [] ad λ a ad=>wpList_nil (wm _ _ ?_);refine Ly [] [(2,.func (.func 144) #[] #[.dl b])] ad λ a ad=>wp_ret<|Av Tryz.results116 ad rfl ?_;exact⟨b,rfl,f.u6 [0] []⟩
theorem aes:adB Tryz.prog 144:=by
 intro n d A c fx L w0 aj hy m;refine awO (vs:=[.func (.yield L) #[] #[],.dl fx]) Tryz.func144 rfl Tryz.ntmps144 rfl (by rintro w ⟨⟨v,h⟩,_⟩;cases h) ?_;intro a ad;obtain⟨W,M0,X,E,f⟩:=aj _ _ m;have g:d.length<=maxLen:=by
  obtain⟨cn,F,G,ao,aT,_⟩:=(f.d 1 rfl:(b5 (fk .i64)).rd _ _ _ _)
  omega
 refine nC ?_;intro K wm;refine p5 (by kernel_rfl) ?_;refine hI 4 [0,1,3] [0,0] (fr':=[(0,.func (.yield L) #[] #[]),(1,.dl fx),(3,.i (I.ax ((d.length:Int)-1)))]) (L:=[fx,0]) sa (hl (f.d 0 rfl).2.2 gK) ad (by kernel_rfl) ?_;intro a ad;rw[amY g]at ad;refine wpList_nil ?_;refine wm _ _ ?_;refine aby ?_;refine anf (λ k a w=>∃(rem:E7),k=rem.length+1/\(∃pre,d=rem.reverse++pre)/\Fr ⟨19,[]⟩ [(0,.func (.yield L) #[] #[]),(1,.dl fx),(3,.i ((rem.length:Int)-1))] a/\n rem w) (d.length+1) ⟨d.reverse,by simp,⟨[],by simp⟩,by rw[lQ];exact ad,m⟩ (by rintro a w ⟨rem,h,_⟩;omega) ?_;rintro k a w ⟨rem,j,⟨pre,i⟩,ad,b⟩ K b8;refine nC ?_;intro o p;refine nC ?_;intro q s;refine p5 (by kernel_rfl) ?_;refine hI 2 [0,1,3,8] [] (fr':=[(0,.func (.yield L) #[] #[]),(1,.dl fx),(3,.i ((rem.length:Int)-1)),(8,.bool (decide (0<=(rem.length:Int)-1)))]) (L:=[]) sa gK ad (by kernel_rfl) ?_;intro a ad;refine wpList_nil ?_;refine s _ _ ?_;refine abA (ad.g rfl) (λ ag=>?_) (λ ag=>?_)
 ·have ag:=of_decide_eq_true ag
  match rem,ag,i,ad,b,j with
  |x::rem,_,i,ad,b,j=>
  have t:=aBk i
  have e:((x::rem).length:Int)-1=(rem.length:Int):=by simp
  rw[e]at ad
  refine Rh ?_
  refine p _ _ ?_
  refine nC ?_
  intro u wo
  refine aby ?_
  refine nC ?_
  intro y z
  refine aKl λ B=>?_
  refine aDL 6 (by kernel_rfl) ?_
  obtain⟨W,M0,X,E,f⟩:=aj _ _ b
  refine hI 4 [0,1,3,11,12,13,14] [0,0] (fr':=[(0,.func (.yield L) #[] #[]),(1,.dl fx),(3,.i (rem.length:Int)),(11,.func (.yield L) #[] #[]),(12,.i (rem.length:Int)),(13,.q A c d),(14,.i (rem.length:Int))]) (L:=[fx,0]) sa (hl (f.d 0 rfl).2.2 gK) ad (by kernel_rfl) ?_
  intro a ad
  obtain⟨C,hi,_,rfl,hc⟩:=D7 _ (f.d 1 rfl) t
  refine fS wn (qi Tryz.underlying22 Tryz.sizeOf3 rfl (ad.g rfl) (ad.g rfl) C hi) ad rfl rfl ?_
  intro a ad
  refine hI 1 [0,1,3,11,12,16] [0,0] (fr':=[(0,.func (.yield L) #[] #[]),(1,.dl fx),(3,.i (rem.length:Int)),(11,.func (.yield L) #[] #[]),(12,.i (rem.length:Int)),(16,.i x)]) (L:=[dD A,fP A+(rem.length:Int).toNat*1]) sa (hl hc gK) ad (by kernel_rfl) ?_
  intro a ad
  refine wpList_nil ?_
  refine aNO (vs:=[.i (rem.length:Int),.i x]) wn rfl (ad.g rfl) ⟨ad.g rfl,ad.g rfl,trivial⟩ (hy x rem _ b) ad rfl rfl ?_
  rintro _ w ⟨rfl,b⟩
  refine⟨_,rfl,λ a ad=>?_⟩
  refine Pf B (by kernel_rfl) ?_
  refine hI 1 [0,1,3,18] [] (fr':=[(0,.func (.yield L) #[] #[]),(1,.dl fx),(3,.i (rem.length:Int)),(18,.bool false)]) (L:=[]) sa gK ad (by kernel_rfl) ?_
  intro a ad
  refine wpList_nil ?_
  refine z _ _ ?_
  refine aKk (ad.g rfl) rfl ?_
  refine Rh ?_
  refine wo _ _ ?_
  refine p5 (by kernel_rfl) ?_
  refine hI 3 [0,1,3] [] (fr':=[(0,.func (.yield L) #[] #[]),(1,.dl fx),(3,.i (I.ax ((rem.length:Int)-1)))]) (L:=[]) sa gK ad (by kernel_rfl) ?_
  intro a ad
  have l:rem.length<=maxLen:=by
   have:=congrArg jb i;simp at this;omega
  rw[amY l]at ad
  refine wpList_nil ?_
  exact b8 _ _ ⟨rem,by simpa using j,⟨x::pre,by rw[i];simp⟩,ad,b⟩
 ·have ag:=of_decide_eq_false ag
  have D:rem=[]:=by
   cases rem with
   |nil=>rfl
   |cons x r=>exact absurd ag (by simp)
  subst D
  refine abB ?_
  refine tx ?_
  refine tx ?_
  refine HX ?_
  refine auk ?_
  refine aHr Tryz.results144 ad ?_
  exact⟨⟨_,rfl⟩,b⟩
theorem auT{W:World}{X:List Nat}{F:Nat}{f:I.bt}{O:Int}{r:List I.Field}{o:Nat}{p:iK}{v:Nat}{P:Nat}{Q:iK}{R:Nat}{M0:List Nat}(d:bz W M0 X W [] [bF.jm o [.q p v f.l,.map (some P),.q Q R f.dB],cv I.kI p v f.l,bF.map nj (Value.int .i64) P f.b3,cv (fk .i64) Q R f.dB])(h:I.uI F f O=some r) :
 Calls Tryz.prog 83 [.dl o,.i O].toArray W (λ e w'=>∃x:Option Addr,∃z:Nat,∃B:List Value,e= .returned (.q x z r)/\bz W M0 X w' [bb.row 136 3 (.q x z r) r B] [bF.rows I.jC B r]):=by
 refine afH Tryz.func83 rfl Tryz.ntmps83 rfl λ a ad=>?_;rw[I.uI]at h;refine wp_seq_k λ K wm=>pj<|Ak (cs:=[.dl o]) wn (Sp rfl rfl (ad.g rfl)) ad d rfl rfl λ a C w _ ad d=>lq 1 [] [] ad λ a ad=>wpList_nil (wm _ _ ?_);refine wp_seq_k λ K sf=>pj<|Ak (cs:=[.slice none 0 0]) wn (Bu Tryz.zeroValue124 rfl rfl) ad d rfl rfl λ a s w _ ad d=>wpList_nil<|sf _ _<|wp_seq_k λ K mY=>wp_seq_k λ K wo=>pj ?_
 refine tT 2 [0,0] [(8,.dl o),(9,.i O)] [C,0] (hl (lp (d.e 1 rfl)) gK) ad λ a ad=>?_;obtain⟨S,Y,h⟩:=I.fY h;have hc:=d;refine Lh (vs:=[.dl o,.i O]) wn rfl Tryz.call114 ⟨(ad.g rfl),(ad.g rfl),trivial⟩ (aeu ((hc.into 0).pick ⟨⟨0,rfl⟩,⟨1,rfl⟩,⟨2,rfl⟩,⟨3,rfl⟩,trivial⟩) Y) ad rfl rfl ?_;rintro _ w ⟨U,V,aPk,rfl,t⟩;refine⟨_,rfl,λ a ad=>?_⟩;have d:=hc.back 0 t;clear t hc;obtain⟨Z7,Z,h⟩:=I.fY h;have hc:=d;have al:=hc.freeze 0 0 rfl rfl
 refine Lh (vs:=[.q U V S]) wn rfl Tryz.call116 ⟨(ad.g rfl),trivial⟩ (aev ((al.into 0).pick ⟨⟨0,rfl⟩,trivial⟩) Z) ad rfl rfl ?_;rintro _ w ⟨D,rfl,t⟩;refine⟨_,rfl,λ a ad=>?_⟩;have k:br [] _ w:=t.bY;have d:=hc.gx 0 (by exact trivial) t;clear t hc al;clear k;refine wpList_nil ?_;have ad:=ad.cut (l':=[(2,.dl C),(5,.dl s),(11,.func (.func 144) #[] #[.dl D])]);refine wo _ _<|wp_block ?_;have d:=d.freeze 1 0 rfl rfl;have d:=d.agK 0 rfl;have d:=d.KF (α:=I.Field) 136 3
 have d:=d.more (y:=bF.rows I.jC [] []) rfl;obtain⟨aBL,WB,h⟩:=I.fY h
 refine aer (c:=V) (A:=U) (β:=(Option Addr)×(Nat)×(List I.Field)×(List Value)) (l1:=λ _ u=>[(2,.dl C),(5,.dl s),(7,.i u)]) (λ((l,n,i,q):(Option Addr)×(Nat)×(List I.Field)×(List Value))=>[bb.row 136 3 (.q l n i) i q,bb.ck s 124 [.q l n i],bb.ck C 113 [.dl o]]) (λ((l,n,i,q):(Option Addr)×(Nat)×(List I.Field)×(List Value))=>[bF.rows I.jC q i,bF.jm D [.q U V S],cv (fk .i64) U V S,bF.jm o [.q p v f.l,.map (some P),.q Q R f.dB],cv I.kI p v f.l,bF.map nj (Value.int .i64) P f.b3,cv (fk .i64) Q R f.dB]) (λ(Qt:E7)((l,n,i,q):(Option Addr)×(Nat)×(List I.Field)×(List Value))=>I.zK f Qt i=some aBL) S (none,0,[],[]) 1 2 aes Tryz.call144 ad rfl rfl rfl (d.hZ [0,1,2,4,5,6,7]) WB (λ b=>by obtain⟨_,_,_,_⟩:=b;rfl) (λ b=>by obtain⟨_,_,_,_⟩:=b;rfl) ?_ ?_ ?_
 ·clear h WB d ad;intro L aBh u w a K ad b8;refine p5 (by kernel_rfl)<|lq 1 [] [(7,.i u)] ad λ a ad=>wpList_nil ?_;exact b8 _ ad.cut
 ·clear h WB d ad;intro L g1 dz g2 cP b aBh u Qt w a K h ad d b8;obtain⟨l,n,i,q⟩:=b;dsimp only at h d;rw[I.zK]at h;refine aby<|ane (m:=11) 9 (br []) (by kernel_rfl) rfl (by kernel_rfl) λ w k=>?_;have d:=d.e8 k;clear k;have g:=d;have j:=br.refl [] w;refine en [0,1,2,3,4,5] 6 [0,0,1,0,2,0] [(14,.q l n i),(18,.q p v f.l),(19,.i u)] [o,0,C,0,s,0] (λ dQ k=>(hl (FL k (lp (g.e 3 rfl))) (hl (FL k (lp (g.e 4 rfl))) (hl (FL k (g.d 3 rfl).2.2) gK)))) ad j λ a ad=>?_;obtain⟨Bl,aA_,h⟩:=I.fY h
  obtain⟨ayj,azG,_,⟨SD,TF,E,G,rfl,H,J⟩,ay8⟩:=D7 _ (g.d 4 rfl) aA_;have g:=g.more (y:=cv I.jC SD TF Bl.Fields) H;have d:=d.more (y:=cv I.jC SD TF Bl.Fields) H;have g:=g.more (y:=cv I.rn E G Bl.bp) J;have d:=d.more (y:=cv I.rn E G Bl.bp) J;refine aud 6 rfl (by kernel_rfl) wn (λ dQ=>qi Tryz.underlying25 Tryz.sizeOf134 rfl (ad.g rfl) (ad.g rfl) ayj azG) j ad rfl rfl λ a ad=>?_
  refine en [7,8] 2 [0,2] [(22,.q SD TF Bl.Fields)] [dD p,fP p+(u).toNat*4+2] (λ dQ k=>(hl (FL k ay8) gK)) ad j λ a ad=>mQ 9 rfl (by kernel_rfl) (λ _=>j) ?_;obtain⟨O_,azU,h⟩:=I.fY h;refine aIU (T:=I.jC) 2 2 1 d rfl rfl rfl Tryz.underlying124 aBw rfl rfl azU rfl wn rfl (ad.g rfl) (ad.g rfl) ad rfl rfl λ a M N aNf w ad d=>ko ?_;clear g j;have g:=d;have j:=br.refl [] w;refine ft.next 10 (br [] w) (by kernel_rfl)<|mQ 10 rfl (by kernel_rfl) (λ _=>j) ?_
  refine xQ (vs:=[.q M N O_]) 3 d rfl wn rfl Tryz.sizeOf124 rfl rfl rfl rfl (ad.g rfl) (ad.g rfl) rfl λ w d=>ko ?_;clear g j;have g:=d;have j:=br.refl [] w;refine ft.next 11 (br [] w) (by kernel_rfl)<|MV (by kernel_rfl) ?_ (λ _=>j);clear g j;have ad:=ad.cut (l':=[]);exact b8 (M,N,O_,aNf) _ _ h (d.hZ [0,4,5,6,7,8,9])
 clear d ad;intro aOm b a w WC ad d;obtain⟨l,n,i,q⟩:=b;dsimp only at WC d;rw[I.zK]at WC;obtain rfl:=oi WC;have ad:=ad.cut (l':=[(5,.dl s)]);refine mY _ _<|wp_seq_k λ K sg=>rg [0,0] [(4,.q l n i)] [s,0] (hl (lp (d.e 2 rfl)) gK) ad λ a ad=>sg _ _<|wp_ret ?_;obtain rfl:=oi h;refine aD3 0 Tryz.results83 ad d rfl rfl λ w d=>?_;exact⟨l,n,q,rfl,d.u6 [1] [0]⟩
end Go.Proofs.YteeliipnilghaaaGreat
namespace Go.Proofs.YteeliipnilghaaaGreat
open Go Go.RowKit ay
set_option maxHeartbeats 4000000
set_option maxRecDepth 20000
theorem auX{W:World}{X:List Nat}{F:Nat}{s_:List (List UInt8)}{f:List UInt8}{r:Int}{d:iK}{g:Nat}{M0:List Nat}(c:bz W M0 X W [] [cv jB d g s_])(h:I.Lw F s_ f=some r) :
 Calls Tryz.prog 117 [.q d g s_,cw f].toArray W (λ e w'=>e= .returned (.i r)/\bz W M0 X w' [] []):=by
 refine enter Tryz.func117 rfl Tryz.ntmps117 rfl λ a ad=>?_;rw[I.Lw]at h;refine qF [] [] ad λ a ad=>wp_seq_k λ K s=>qF [] [(7,.i (s_.length:Int)),(8,.i 0)] ad λ a ad=>?_;obtain⟨i,h,j⟩:=I.aIY h;refine M_ (λ a w=>Fr ⟨19,[]⟩ [] a/\bz W M0 X w [] [cv jB d g s_]/\i=(.go ())) (λ K wo=>?_) ?_
 ·refine TJ (λ(q:Nat) a w=>∃(b:Int),Fr ⟨19,[]⟩ [(0,.q d g s_),(1,cw f),(7,.i (s_.length:Int)),(8,.i b)] a/\bz W M0 X w [] [cv jB d g s_]/\I.AL s_ f q b=some i) F ⟨0,ad.cut,c,h⟩ ?_ ?_
  ·rintro a w ⟨b,ad,c,h⟩;exact absurd h (by simp[I.AL])
  rintro q a w ⟨b,ad,c,h⟩ K t;rw[I.AL]at h;refine qF [] [(9,.bool (decide (b<(s_.length:Int))))] ad λ a ad=>wp_seq_k λ K u=>Na (ad.g rfl) h (λ k h=>?_) (λ k h=>?_)
  ·refine wp_skip<|u _ _<|wp_seq_k λ K v=>wp_block<|qF [] [(5,.i b)] ad λ a ad=>wp_seq_k λ K x=>pj<|lq 3 [] [(11,cw f),(12,.q d g s_),(13,.i b)] ad λ a ad=>?_;obtain⟨y,l,h⟩:=I.fY h;obtain⟨m,n,_,rfl,o⟩:=D7 _ (c.d 0 rfl) l;refine fS wn (qi Tryz.underlying120 Tryz.sizeOf9 rfl (ad.g rfl) (ad.g rfl) m n) ad rfl rfl λ a ad=>tT 2 [0,0] [(16,.bool (decide (f=y)))] [dD d,fP d+(b).toNat*1] (hl o gK) ad λ a ad=>wpList_nil (x _ _ ?_);refine Na (ad.g rfl) h (λ p h=>?_) (λ p h=>?_)
   ·refine Ly [] [(4,.i b)] ad λ a ad=>wp_ret ?_;obtain rfl:=oi h;obtain rfl:=oi j;refine app (Sf (Sf (app (Sf (Sf ?_)))));refine Av Tryz.results117 ad rfl ?_;exact⟨rfl,c.u6 [] []⟩
   refine wp_skip<|v _ _<|aeW [] [(8,.i (I.ax (b+1)))] ad λ a ad=>?_;exact t _ _ ⟨I.ax (b+1),ad.cut,c,h⟩
  refine wp_exit<|tx (tx (HX ?_));exact wo _ _ ⟨ad.cut,c,(os h)⟩
 rintro a w ⟨ad,c,aA⟩;subst i;have h:=j;clear j;dsimp only[I.aeF]at h;refine s _ _<|Ly [] [(4,.i (-1))] ad λ a ad=>wp_ret ?_;obtain rfl:=oi h;refine Av Tryz.results117 ad rfl ?_;exact⟨rfl,c.u6 [] []⟩
theorem auU{W:World}{X:List Nat}{F:Nat}{i:I.bt}{dx:Int}{r:(List (List UInt8))×(List I.Target)}{p:Nat}{q:iK}{t:Nat}{u:Nat}{v:iK}{z:Nat}{M0:List Nat}(d:bz W M0 X W [] [bF.jm p [.q q t i.l,.map (some u),.q v z i.dB],cv I.kI q t i.l,bF.map nj (Value.int .i64) u i.b3,cv (fk .i64) v z i.dB])(h:I.DG F i dx=some r) :
 Calls Tryz.prog 82 [.dl p,.i dx].toArray W (λ e w'=>∃ado:Option Addr,∃ael:Nat,∃apu:List Value,∃adp:Option Addr,∃aem:Nat,∃apv:List Value,e= .returned (.tuple #[.q ado ael r.1,.q adp aem r.2])/\bz W M0 X w' [bb.row 9 1 (.q ado ael r.1) r.1 apu,bb.row 166 2 (.q adp aem r.2) r.2 apv] [bF.rows jB apu r.1,bF.rows I.kJ apv r.2]):=by
 refine afH Tryz.func82 rfl Tryz.ntmps82 rfl λ a ad=>?_;rw[I.DG]at h;refine wp_seq_k λ K wm=>pj<|Ak (cs:=[.dl p]) wn (Sp rfl rfl (ad.g rfl)) ad d rfl rfl λ a Q w _ ad d=>lq 2 [] [] ad λ a ad=>wpList_nil (wm _ _ ?_);refine wp_seq_k λ K sf=>pj<|Ak (cs:=[.slice none 0 0]) wn (Bu Tryz.zeroValue120 rfl rfl) ad d rfl rfl λ a o w _ ad d=>wpList_nil<|sf _ _<|wp_seq_k λ K mY=>pj<|Ak (cs:=[.slice none 0 0]) wn (Bu Tryz.zeroValue121 rfl rfl) ad d rfl rfl λ a kR w _ ad d=>wpList_nil ?_
 refine mY _ _<|wp_seq_k λ K wo=>wp_seq_k λ K sg=>pj<|tT 2 [0,0] [(14,.dl p),(15,.i dx)] [Q,0] (hl (lp (d.e 2 rfl)) gK) ad λ a ad=>?_;obtain⟨B,aAs,h⟩:=I.fY h;have hc:=d;refine Lh (vs:=[.dl p,.i dx]) wn rfl Tryz.call114 ⟨(ad.g rfl),(ad.g rfl),trivial⟩ (aeu ((hc.into 0).pick ⟨⟨0,rfl⟩,⟨1,rfl⟩,⟨2,rfl⟩,⟨3,rfl⟩,trivial⟩) aAs) ad rfl rfl ?_;rintro _ w ⟨C,D,aPl,rfl,O⟩;refine⟨_,rfl,λ a ad=>?_⟩;have d:=hc.back 0 O;clear O hc;obtain⟨h2,aAu,h⟩:=I.fY h;have hc:=d
 have al:=hc.freeze 0 0 rfl rfl;refine Lh (vs:=[.q C D B]) wn rfl Tryz.call116 ⟨(ad.g rfl),trivial⟩ (aev ((al.into 0).pick ⟨⟨0,rfl⟩,trivial⟩) aAu) ad rfl rfl ?_;rintro _ w ⟨FR,rfl,O⟩;refine⟨_,rfl,λ a ad=>?_⟩;have g:br [] _ w:=O.bY;have d:=hc.gx 0 (by exact trivial) O;clear O hc al;clear g;refine wpList_nil ?_;have ad:=ad.cut (l':=[(2,.dl Q),(6,.dl o),(7,.dl kR),(17,.func (.func 144) #[] #[.dl FR])]);refine sg _ _<|wp_block ?_;have d:=d.freeze 1 0 rfl rfl
 have d:=d.agK 0 rfl;have d:=d.KF (α:=I.Target) 166 2;have d:=d.more (y:=bF.rows I.kJ [] []) rfl;have d:=d.KF (α:=List UInt8) 9 1;have d:=d.more (y:=bF.rows jB [] []) rfl;obtain⟨aBK,Wz,h⟩:=I.fY h
 refine aer (c:=D) (A:=C) (β:=(Option Addr)×(Nat)×(List (List UInt8))×(List Value)×(Option Addr)×(Nat)×(List I.Target)×(List Value)) (l1:=λ _ e4=>[(2,.dl Q),(6,.dl o),(7,.dl kR),(9,.i e4)]) (λ((R,S,G,Y,U,V,H,Z):(Option Addr)×(Nat)×(List (List UInt8))×(List Value)×(Option Addr)×(Nat)×(List I.Target)×(List Value))=>[bb.row 9 1 (.q R S G) G Y,bb.row 166 2 (.q U V H) H Z,bb.ck kR 121 [.q U V H],bb.ck o 120 [.q R S G],bb.ck Q 113 [.dl p]]) (λ((R,S,G,Y,U,V,H,Z):(Option Addr)×(Nat)×(List (List UInt8))×(List Value)×(Option Addr)×(Nat)×(List I.Target)×(List Value))=>[bF.rows jB Y G,bF.rows I.kJ Z H,bF.jm FR [.q C D B],cv (fk .i64) C D B,bF.jm p [.q q t i.l,.map (some u),.q v z i.dB],cv I.kI q t i.l,bF.map nj (Value.int .i64) u i.b3,cv (fk .i64) v z i.dB]) (λ(Qu:E7)((R,S,G,Y,U,V,H,Z):(Option Addr)×(Nat)×(List (List UInt8))×(List Value)×(Option Addr)×(Nat)×(List I.Target)×(List Value))=>I.zP F i Qu G H=some aBK) B (none,0,[],[],none,0,[],[]) 2 3 aes Tryz.call144 ad rfl rfl rfl (d.hZ [0,0,2,3,5,6,7,8]) Wz (λ b=>by obtain⟨_,_,_,_,_,_,_,_⟩:=b;rfl) (λ b=>by obtain⟨_,_,_,_,_,_,_,_⟩:=b;rfl) ?_ ?_ ?_
 ·clear h Wz d ad;intro L aBi e4 w a K ad b8;refine p5 (by kernel_rfl)<|lq 1 [] [(9,.i e4)] ad λ a ad=>wpList_nil ?_;exact b8 _ ad.cut
 ·clear h Wz d ad;intro L g1 dz g2 cP b aBi e4 Qu w a K h ad d b8;obtain⟨R,S,G,Y,U,V,H,Z⟩:=b;dsimp only at h d;rw[I.zP]at h;obtain⟨aiA,h,Ww⟩:=I.fY h
  refine abz (λ a w=>∃(Mw:iK)(M3:Nat)(xc:List (List UInt8))(Si:o8)(Mx:iK)(M4:Nat)(xd:List I.Target)(Sj:o8),Fr ⟨59,[]⟩ [] a/\bz W M0 X w [bb.obj g1 dz,bb.obj g2 cP,bb.row 9 1 (.q Mw M3 xc) xc Si,bb.row 166 2 (.q Mx M4 xd) xd Sj,bb.ck kR 121 [.q Mx M4 xd],bb.ck o 120 [.q Mw M3 xc],bb.ck Q 113 [.dl p]] [bF.rows jB Si xc,bF.rows I.kJ Sj xd,bF.jm FR [.q C D B],cv (fk .i64) C D B,bF.jm p [.q q t i.l,.map (some u),.q v z i.dB],cv I.kI q t i.l,bF.map nj (Value.int .i64) u i.b3,cv (fk .i64) v z i.dB]/\aiA=(xc,xd)) (λ K Jj=>?_) ?_
  ·clear Ww;refine nC λ K Jk=>p5 (by kernel_rfl)<|tT 5 [0,0,1,0] [(23,.q q t i.l),(24,.i e4)] [p,0,Q,0] (hl (lp (d.e 6 rfl)) (hl (d.d 4 rfl).2.2 gK)) ad λ a ad=>?_;obtain⟨n,aA',h⟩:=I.fY h;obtain⟨ayi,azF,_,⟨My,M5,s,E,rfl,azf,azg⟩,ay7⟩:=D7 _ (d.d 5 rfl) aA';have d:=d.more (y:=cv I.jC My M5 n.Fields) azf;have d:=d.more (y:=cv I.rn s E n.bp) azg;refine fS wn (qi Tryz.underlying25 Tryz.sizeOf134 rfl (ad.g rfl) (ad.g rfl) ayi azF) ad rfl rfl λ a ad=>?_
   refine tT 4 [0,3] [(27,.q s E n.bp),(28,.i (n.bp.length:Int)),(29,.i 0)] [dD q,fP q+(e4).toNat*4+3] (hl ay7 gK) ad λ a ad=>wpList_nil (Jk _ _ ?_);obtain⟨XH,h,Wx⟩:=I.fY h
   refine abz (λ a w=>∃(Mz:iK)(M6:Nat)(xf:List (List UInt8))(Sk:o8)(MA:iK)(M7:Nat)(xg:List I.Target)(Sl:o8),Fr ⟨59,[]⟩ [] a/\bz W M0 X w [bb.obj g1 dz,bb.obj g2 cP,bb.row 9 1 (.q Mz M6 xf) xf Sk,bb.row 166 2 (.q MA M7 xg) xg Sl,bb.ck kR 121 [.q MA M7 xg],bb.ck o 120 [.q Mz M6 xf],bb.ck Q 113 [.dl p]] [bF.rows jB Sk xf,bF.rows I.kJ Sl xg,cv I.rn s E n.bp,cv I.jC My M5 n.Fields,bF.jm FR [.q C D B],cv (fk .i64) C D B,bF.jm p [.q q t i.l,.map (some u),.q v z i.dB],cv I.kI q t i.l,bF.map nj (Value.int .i64) u i.b3,cv (fk .i64) v z i.dB]/\XH=(xf,xg)) (λ K Jl=>?_) ?_
   ·clear Wx
    refine anf (λ(eI:Nat) a w=>∃(J:iK)(M:Nat)(kD:List (List UInt8))(HZ:o8)(ym:iK)(y0:Nat)(P:List I.Target)(Mn:o8)(j:Int),Fr ⟨59,[]⟩ [(6,.dl o),(7,.dl kR),(9,.i e4),(27,.q s E n.bp),(28,.i (n.bp.length:Int)),(29,.i j)] a/\bz W M0 X w [bb.obj g1 dz,bb.obj g2 cP,bb.row 9 1 (.q J M kD) kD HZ,bb.row 166 2 (.q ym y0 P) P Mn,bb.ck kR 121 [.q ym y0 P],bb.ck o 120 [.q J M kD],bb.ck Q 113 [.dl p]] [bF.rows jB HZ kD,bF.rows I.kJ Mn P,cv I.rn s E n.bp,cv I.jC My M5 n.Fields,bF.jm FR [.q C D B],cv (fk .i64) C D B,bF.jm p [.q q t i.l,.map (some u),.q v z i.dB],cv I.kI q t i.l,bF.map nj (Value.int .i64) u i.b3,cv (fk .i64) v z i.dB]/\I.zQ F e4 n eI kD P j=some XH) F ⟨R,S,G,Y,U,V,H,Z,0,ad.cut,d.hZ [2,3,0,1,4,5,6,7,8,9],h⟩ ?_ ?_
    ·rintro a w ⟨J,M,kD,HZ,ym,y0,P,Mn,j,ad,d,h⟩;exact absurd h (by simp[I.zQ])
    rintro eI a w ⟨J,M,kD,HZ,ym,y0,P,Mn,j,ad,d,h⟩ K V2;rw[I.zQ]at h;refine nC λ K Ji=>p5 (by kernel_rfl)<|lq 1 [] [(30,.bool (decide (j<(n.bp.length:Int))))] ad λ a ad=>wpList_nil (Ji _ _ ?_);refine nC λ K ayv=>abA (ad.g rfl) (λ Wa=>?_) (λ Wa=>?_)
    ·have h:=I.TT Wa h;refine Rh<|ayv _ _<|nC λ K ayw=>?_;obtain⟨aiB,h,Wy⟩:=I.fY h
     refine abz (λ a w=>∃(MB:iK)(M8:Nat)(xh:List (List UInt8))(Sm:o8)(MC:iK)(M9:Nat)(xi:List I.Target)(Sn:o8),Fr ⟨59,[]⟩ [(6,.dl o),(7,.dl kR),(9,.i e4),(27,.q s E n.bp),(28,.i (n.bp.length:Int)),(29,.i j)] a/\bz W M0 X w [bb.obj g1 dz,bb.obj g2 cP,bb.row 9 1 (.q MB M8 xh) xh Sm,bb.row 166 2 (.q MC M9 xi) xi Sn,bb.ck kR 121 [.q MC M9 xi],bb.ck o 120 [.q MB M8 xh],bb.ck Q 113 [.dl p]] [bF.rows jB Sm xh,bF.rows I.kJ Sn xi,cv I.rn s E n.bp,cv I.jC My M5 n.Fields,bF.jm FR [.q C D B],cv (fk .i64) C D B,bF.jm p [.q q t i.l,.map (some u),.q v z i.dB],cv I.kI q t i.l,bF.map nj (Value.int .i64) u i.b3,cv (fk .i64) v z i.dB]/\aiB=(xh,xi)) (λ K N8=>?_) ?_
     ·clear Wy;refine nC λ K ayx=>p5 (by kernel_rfl)<|lq 1 [] [(31,.i j)] ad λ a ad=>?_;obtain⟨l,aBa,h⟩:=I.fY h;obtain⟨ayk,azH,_,⟨SE,TG,SF,TH,rfl,azh,azi⟩,ay9⟩:=D7 _ (d.d 2 rfl) aBa;have d:=d.more (y:=cv I.Ea SE TG l.cD) azh;have d:=d.more (y:=cv I.D' SF TH l.cL) azi;refine fS wn (qi Tryz.underlying132 Tryz.sizeOf131 rfl (ad.g rfl) (ad.g rfl) ayk azH) ad rfl rfl λ a ad=>?_
      refine tT 1 [0,0] [(33,.agg #[cw l.Name,.bool l.Static,.q SE TG l.cD,.i l.Returns.Kind,cw l.Returns.ap,.i l.hQ,.i l.hN,cw l.Code,.q SF TH l.cL])] [dD s,fP s+(j).toNat*9] (hl ay9 gK) ad λ a ad=>Ak (cs:=[cw [],.bool false,.slice none 0 0,.i 0,cw [],.i 0,.i 0,cw [],.slice none 0 0]) wn (Bu Tryz.zeroValue131 rfl rfl) ad d rfl rfl λ a U1 w _ ad d=>lq 1 [] [(10,.i j)] ad λ a ad=>?_
      refine xQ (vs:=[cw l.Name,.bool l.Static,.q SE TG l.cD,.i l.Returns.Kind,cw l.Returns.ap,.i l.hQ,.i l.hN,cw l.Code,.q SF TH l.cL]) 0 d rfl wn rfl Tryz.sizeOf131 rfl rfl rfl rfl (ad.g rfl) (ad.g rfl) rfl λ w d=>wpList_nil<|ayx _ _<|nC λ K ayy=>p5 (by kernel_rfl)<|lq 2 [] [(34,.i e4),(35,.i j)] ad λ a ad=>?_
      refine fS wn (aNl (vs:=[(0,.i e4),(1,.i j)]) (cs:=[.i e4,.i j]) Tryz.zeroValue166 Tryz.underlying166 aFB rfl ⟨⟨(ad.g rfl),rfl⟩,⟨(ad.g rfl),rfl⟩,trivial⟩ (by kernel_rfl)) ad rfl rfl λ a ad=>Ak (cs:=[.i 0,.i 0]) wn (Bu Tryz.zeroValue166 rfl rfl) ad d rfl rfl λ a U2 w _ ad d=>xQ (vs:=[.i e4,.i j]) 0 d rfl wn rfl Tryz.sizeOf166 rfl rfl rfl rfl (ad.g rfl) (ad.g rfl) rfl λ w d=>wpList_nil ?_
      have ad:=ad.cut (l':=[(6,.dl o),(7,.dl kR),(9,.i e4),(11,.dl U1),(12,.dl U2),(27,.q s E n.bp),(28,.i (n.bp.length:Int)),(29,.i j)]);refine ayy _ _<|nC λ K ayz=>nC λ K ayA=>p5 (by kernel_rfl)<|tT 3 [0,0,1,0] [(37,.q J M kD),(39,cw l.Name)] [U1,0,o,0] (hl (lp (d.e 7 rfl)) (hl (lp (d.e 1 rfl)) gK)) ad λ a ad=>?_;obtain⟨D5,aAv,h⟩:=I.fY h;have hc:=d;have al:=hc.freeze 4 2 rfl rfl
      refine Lh (vs:=[.q J M kD,cw l.Name]) wn rfl Tryz.call117 ⟨(ad.g rfl),(ad.g rfl),trivial⟩ (auX ((al.into 0).pick ⟨⟨0,rfl⟩,trivial⟩) aAv) ad rfl rfl ?_;rintro _ w ⟨rfl,O⟩;refine⟨_,rfl,λ a ad=>?_⟩;have g:br [] _ w:=O.bY;have d:=hc.gx 0 (by exact trivial) O;clear O hc al;clear g;refine lq 1 [] [(13,.i D5)] ad λ a ad=>wpList_nil (ayA _ _ ?_);refine nC λ K ayB=>p5 (by kernel_rfl)<|lq 2 [] [(42,.bool (decide (0<=D5)))] ad λ a ad=>wpList_nil (ayB _ _ ?_);refine abA (ad.g rfl) (λ Wb=>?_) (λ Wb=>?_)
      ·have h:=I.TT Wb h;refine nC λ K ayC=>p5 (by kernel_rfl)<|tT 3 [0,0,1,0] [(43,.q ym y0 P),(44,.i D5),(45,.agg #[.i e4,.i j])] [U2,0,kR,0] (hl (lp (d.e 6 rfl)) (hl (lp (d.e 0 rfl)) gK)) ad λ a ad=>?_;obtain⟨acP,aii,h⟩:=I.fY h;obtain⟨ayl,azI,_,rfl,ay_⟩:=aIl (d.e 5 rfl) (d.d 3 rfl) aii;refine fS wn (qi Tryz.underlying121 Tryz.sizeOf166 rfl (ad.g rfl) (ad.g rfl) ayl azI) ad rfl rfl λ a ad=>?_;obtain⟨XZ,azS,h⟩:=I.fY h
       refine aJd (T:=I.kJ) (d':=(⟨e4,j⟩:I.Target)) (vs:=[.i e4,.i j]) (cs0:=[.i acP.ap,.i acP.Method]) (kk:=0) 5 3 azS d rfl rfl aii rfl ay_ wn rfl Tryz.sizeOf166 rfl rfl rfl rfl rfl (ad.g rfl) (ad.g rfl) rfl λ aNd w N g d=>?_;try unfold Value.q at d;try unfold Value.q at ad;rw[N]at d;try rw[N]at ad;clear N;clear g;refine wpList_nil ?_;have ad:=ad.cut (l':=[(6,.dl o),(7,.dl kR),(9,.i e4),(27,.q s E n.bp),(28,.i (n.bp.length:Int)),(29,.i j)]);refine ayC _ _<|abB<|tx (HX ?_)
       exact N8 _ _ ⟨J,M,kD,HZ,ym,y0,XZ,aNd,ad.cut,d.u6 [2,3,4,5,6,7,8] [3,0,5,6,7,8,9,10,11,12],(os h)⟩
      have h:=I.TS Wb h;refine Rh<|ayz _ _<|ane (m:=11) 8 (br (Value.q J M kD).ownBlock.toList) (by kernel_rfl) rfl (by kernel_rfl) λ w g=>?_;have d:=d.e8 g;clear g;have k:=d;have f:=br.refl (Value.q J M kD).ownBlock.toList w
      refine en [0,1,2,5,6] 5 [0,0,1,0,2,0,3,0] [(47,.q J M kD),(49,cw l.Name),(52,.q ym y0 P),(53,.agg #[.i e4,.i j])] [U2,0,kR,0,U1,0,o,0] (λ dQ g=>(hl (NC g (k.PS 7 4 rfl rfl (by decide)) (IC (k.e 7 rfl)) (lp (k.e 7 rfl))) (hl (NC g (k.PS 1 4 rfl rfl (by decide)) (IC (k.e 1 rfl)) (lp (k.e 1 rfl))) (hl (NC g (k.PS 6 4 rfl rfl (by decide)) (IC (k.e 6 rfl)) (lp (k.e 6 rfl))) (hl (NC g (k.PS 0 4 rfl rfl (by decide)) (IC (k.e 0 rfl)) (lp (k.e 0 rfl))) gK))))) ad f λ a ad=>adU 3 7 rfl rfl (by kernel_rfl) (λ _=>f) ?_ ?_
      ·refine KG (cs:=[cw l.Name]) wn (ES (vs:=[(0,cw l.Name)]) Tryz.underlying120 Tryz.sizeOf9 Tryz.zeroValue9 rfl rfl rfl ⟨⟨(ad.g rfl),rfl⟩,trivial⟩ (by kernel_rfl)) ad d rfl rfl λ a ax5 w g Jy ad d=>?_;have Jy:=hv f.size Jy;have f:=f.trans g (by simp);clear g;refine ko<|adU 4 7 rfl rfl (by kernel_rfl) (λ _=>f) ?_ ?_
       ·obtain⟨O9,azT,h⟩:=I.fY h;refine aaM (T:=jB) (ml:=[l.Name]) 5 0 2 d rfl rfl rfl Tryz.underlying120 Xs rfl rfl azT rfl rfl ⟨_,_,rfl,rfl,rfl⟩ wn rfl (ad.g rfl) (ad.g rfl) ad rfl rfl λ a adn aek aNe w g ad d=>?_;have f:=f.trans g (λ x aa=>.inl aa);clear g;refine ko<|mQ 7 rfl (by kernel_rfl) (λ _=>f)<|KG (cs:=[.i e4,.i j]) wn (ES (vs:=[(0,.agg #[.i e4,.i j])]) Tryz.underlying121 Tryz.sizeOf166 Tryz.zeroValue166 rfl rfl rfl ⟨⟨(ad.g rfl),rfl⟩,trivial⟩ (by kernel_rfl)) ad d rfl rfl λ a aOk w g ahG ad d=>?_;have ahG:=hv f.size ahG;have f:=f.trans g (by simp);clear g;refine ko ?_
        refine mQ 8 rfl (by kernel_rfl) (λ _=>f) ?_;obtain⟨uE,JO,h⟩:=I.fY h;refine Lg (T:=I.kJ) (ml:=[(⟨e4,j⟩:I.Target)]) 6 0 4 d rfl rfl rfl Tryz.underlying121 Xr rfl rfl JO rfl rfl ⟨_,_,rfl,rfl,rfl⟩ wn rfl (ad.g rfl) (ad.g rfl) ad rfl rfl λ a yn y1 Mo w ad d=>ko ?_;clear k f;have k:=d;have f:=br.refl [] w;refine ft.next 9 (br [] w) (by kernel_rfl)<|mQ 9 rfl (by kernel_rfl) (λ _=>f)<|xQ (vs:=[.q adn aek O9]) 7 d rfl wn rfl Tryz.sizeOf120 rfl rfl rfl rfl (ad.g rfl) (ad.g rfl) rfl λ w d=>ko ?_;clear k f;have k:=d
        have f:=br.refl [] w;refine ft.next 10 (br [] w) (by kernel_rfl)<|mQ 10 rfl (by kernel_rfl) (λ _=>f)<|xQ (vs:=[.q yn y1 uE]) 6 d rfl wn rfl Tryz.sizeOf121 rfl rfl rfl rfl (ad.g rfl) (ad.g rfl) rfl λ w d=>ko ?_;clear k f;have k:=d;have f:=br.refl [] w;refine ft.next 11 (br [] w) (by kernel_rfl)<|MV (by kernel_rfl) ?_ (λ _=>f);clear k f;have ad:=ad.cut (l':=[(6,.dl o),(7,.dl kR),(9,.i e4),(27,.q s E n.bp),(28,.i (n.bp.length:Int)),(29,.i j)])
        exact N8 _ _ ⟨adn,aek,O9,aNe,yn,y1,uE,Mo,ad.cut,d.u6 [2,3,4,5,6,7,8] [1,0,6,7,8,9,10,11,12,13],(os h)⟩
       refine KG (cs:=[.i e4,.i j]) wn (ES (vs:=[(0,.agg #[.i e4,.i j])]) Tryz.underlying121 Tryz.sizeOf166 Tryz.zeroValue166 rfl rfl rfl ⟨⟨(ad.g rfl),rfl⟩,trivial⟩ (by kernel_rfl)) ad d rfl rfl λ a ax6 w g Jz ad d=>?_;have Jz:=hv f.size Jz;have f:=f.trans g (by simp);clear g;refine ko<|mQ 4 rfl (by kernel_rfl) (λ _=>f) ?_;obtain⟨Km,WE,h⟩:=I.fY h;refine aaM (T:=jB) (ml:=[l.Name]) 6 1 2 d rfl rfl rfl Tryz.underlying120 Xs rfl rfl WE rfl rfl ⟨_,_,rfl,rfl,rfl⟩ wn rfl (ad.g rfl) (ad.g rfl) ad rfl rfl λ a H7 IG ac5 w g ad d=>?_;have f:=f.trans g (λ x aa=>.inl aa);clear g;refine ko ?_
       refine mQ 8 rfl (by kernel_rfl) (λ _=>f) ?_;obtain⟨uE,JO,h⟩:=I.fY h;refine Lg (T:=I.kJ) (ml:=[(⟨e4,j⟩:I.Target)]) 6 0 4 d rfl rfl rfl Tryz.underlying121 Xr rfl rfl JO rfl rfl ⟨_,_,rfl,rfl,rfl⟩ wn rfl (ad.g rfl) (ad.g rfl) ad rfl rfl λ a yn y1 Mo w ad d=>ko ?_;clear k f;have k:=d;have f:=br.refl [] w;refine ft.next 9 (br [] w) (by kernel_rfl)<|mQ 9 rfl (by kernel_rfl) (λ _=>f)<|xQ (vs:=[.q H7 IG Km]) 7 d rfl wn rfl Tryz.sizeOf120 rfl rfl rfl rfl (ad.g rfl) (ad.g rfl) rfl λ w d=>ko ?_;clear k f;have k:=d
       have f:=br.refl [] w;refine ft.next 10 (br [] w) (by kernel_rfl)<|mQ 10 rfl (by kernel_rfl) (λ _=>f)<|xQ (vs:=[.q yn y1 uE]) 6 d rfl wn rfl Tryz.sizeOf121 rfl rfl rfl rfl (ad.g rfl) (ad.g rfl) rfl λ w d=>ko ?_;clear k f;have k:=d;have f:=br.refl [] w;refine ft.next 11 (br [] w) (by kernel_rfl)<|MV (by kernel_rfl) ?_ (λ _=>f);clear k f;have ad:=ad.cut (l':=[(6,.dl o),(7,.dl kR),(9,.i e4),(27,.q s E n.bp),(28,.i (n.bp.length:Int)),(29,.i j)])
       exact N8 _ _ ⟨H7,IG,Km,ac5,yn,y1,uE,Mo,ad.cut,d.u6 [2,3,4,5,6,7,8] [1,0,6,7,8,9,10,11,12,13],(os h)⟩
      refine KG (cs:=[.i e4,.i j]) wn (ES (vs:=[(0,.agg #[.i e4,.i j])]) Tryz.underlying121 Tryz.sizeOf166 Tryz.zeroValue166 rfl rfl rfl ⟨⟨(ad.g rfl),rfl⟩,trivial⟩ (by kernel_rfl)) ad d rfl rfl λ a ax5 w g Jy ad d=>?_;have Jy:=hv f.size Jy;have f:=f.trans g (by simp);clear g;refine ko<|mQ 3 rfl (by kernel_rfl) (λ _=>f)<|KG (cs:=[cw l.Name]) wn (ES (vs:=[(0,cw l.Name)]) Tryz.underlying120 Tryz.sizeOf9 Tryz.zeroValue9 rfl rfl rfl ⟨⟨(ad.g rfl),rfl⟩,trivial⟩ (by kernel_rfl)) ad d rfl rfl λ a ax6 w g Jz ad d=>?_;have Jz:=hv f.size Jz;have f:=f.trans g (by simp);clear g;refine ko ?_
      refine mQ 4 rfl (by kernel_rfl) (λ _=>f) ?_;obtain⟨Km,WE,h⟩:=I.fY h;refine aaM (T:=jB) (ml:=[l.Name]) 6 0 2 d rfl rfl rfl Tryz.underlying120 Xs rfl rfl WE rfl rfl ⟨_,_,rfl,rfl,rfl⟩ wn rfl (ad.g rfl) (ad.g rfl) ad rfl rfl λ a H7 IG ac5 w g ad d=>?_;have f:=f.trans g (λ x aa=>.inl aa);clear g;refine ko<|mQ 8 rfl (by kernel_rfl) (λ _=>f) ?_;obtain⟨uE,JO,h⟩:=I.fY h;refine Lg (T:=I.kJ) (ml:=[(⟨e4,j⟩:I.Target)]) 6 0 4 d rfl rfl rfl Tryz.underlying121 Xr rfl rfl JO rfl rfl ⟨_,_,rfl,rfl,rfl⟩ wn rfl (ad.g rfl) (ad.g rfl) ad rfl rfl λ a yn y1 Mo w ad d=>ko ?_
      clear k f;have k:=d;have f:=br.refl [] w;refine ft.next 9 (br [] w) (by kernel_rfl)<|mQ 9 rfl (by kernel_rfl) (λ _=>f)<|xQ (vs:=[.q H7 IG Km]) 7 d rfl wn rfl Tryz.sizeOf120 rfl rfl rfl rfl (ad.g rfl) (ad.g rfl) rfl λ w d=>ko ?_;clear k f;have k:=d;have f:=br.refl [] w;refine ft.next 10 (br [] w) (by kernel_rfl)<|mQ 10 rfl (by kernel_rfl) (λ _=>f)<|xQ (vs:=[.q yn y1 uE]) 6 d rfl wn rfl Tryz.sizeOf121 rfl rfl rfl rfl (ad.g rfl) (ad.g rfl) rfl λ w d=>ko ?_;clear k f
      have k:=d;have f:=br.refl [] w;refine ft.next 11 (br [] w) (by kernel_rfl)<|MV (by kernel_rfl) ?_ (λ _=>f);clear k f;have ad:=ad.cut (l':=[(6,.dl o),(7,.dl kR),(9,.i e4),(27,.q s E n.bp),(28,.i (n.bp.length:Int)),(29,.i j)]);exact N8 _ _ ⟨H7,IG,Km,ac5,yn,y1,uE,Mo,ad.cut,d.u6 [2,3,4,5,6,7,8] [1,0,6,7,8,9,10,11,12,13],(os h)⟩
     rintro a w ⟨MB,M8,xh,Sm,MC,M9,xi,Sn,ad,d,aA⟩;subst aiB;have h:=Wy;clear Wy;dsimp only at h;refine ayw _ _<|p5 (by kernel_rfl)<|lq 2 [] [(29,.i (I.ax (j+1)))] ad λ a ad=>wpList_nil ?_;exact V2 _ _ ⟨MB,M8,xh,Sm,MC,M9,xi,Sn,I.ax (j+1),ad.cut,d,h⟩
    have h:=I.TS Wa h;refine abB<|tx (tx (HX ?_));exact Jl _ _ ⟨J,M,kD,HZ,ym,y0,P,Mn,ad.cut,d,(os h)⟩
   rintro a w ⟨Mz,M6,xf,Sk,MA,M7,xg,Sl,ad,d,aA⟩;subst XH;have h:=Wx;clear Wx;dsimp only at h;exact Jj _ _ ⟨Mz,M6,xf,Sk,MA,M7,xg,Sl,ad.cut,d.hZ [0,1,4,5,6,7,8,9],(os h)⟩
  rintro a w ⟨Mw,M3,xc,Si,Mx,M4,xd,Sj,ad,d,aA⟩;subst aiA;have h:=Ww;clear Ww;dsimp only at h;exact b8 (Mw,M3,xc,Si,Mx,M4,xd,Sj) _ _ h (d)
 clear d ad;intro aOl b a w WA ad d;obtain⟨R,S,G,Y,U,V,H,Z⟩:=b;dsimp only at WA d;rw[I.zP]at WA;obtain rfl:=oi WA;have ad:=ad.cut (l':=[(6,.dl o),(7,.dl kR)]);dsimp only at h;refine wo _ _<|wp_seq_k λ K ayD=>auW (by kernel_rfl) (by kernel_rfl)<|aF9 4 [0,0,1,0] [(4,.q R S G),(5,.q U V H)] [kR,0,o,0] (λ dQ g=>(hl (FL g (lp (d.e 4 rfl))) (hl (FL g (lp (d.e 3 rfl))) gK))) ad λ a ad=>wpQuiet_nil λ w g=>?_;have d:=d.e8 g;clear g;refine ayD _ _<|wp_ret ?_
 obtain rfl:=oi h;refine aD4 0 Tryz.results82 ad d rfl rfl rfl λ w d=>?_;exact⟨R,S,Y,U,V,Z,rfl,d.u6 [1,2] [0,1]⟩
end Go.Proofs.YteeliipnilghaaaGreat
namespace Go.Proofs.YteeliipnilghaaaGreat
open Go Go.RowKit ay I bc
section
variable{F:Nat->Prop}{w:World}
theorem aut{cs:List Value}{d:I.Kind}(h:(bs.ty 128).rd F w cs d):I.Ea.rd F w cs d:=by
 change fh (λ t=>(fM Nw t).ty) F w [.i .i64,.s] cs (d.Kind,d.ap,())at h;obtain⟨_,_,rfl,rfl,_,_,rfl,rfl,rfl⟩:=h;rfl
theorem aus{cs:List Value}{d:I.Handler}(h:(bs.ty 157).rd F w cs d):I.D'.rd F w cs d:=by
 change fh (λ t=>(fM Nu t).ty) F w [.i .i64,.i .i64,.i .i64,.s] cs (d.From,d.To,d.At,d.ap,())at h;obtain⟨_,_,rfl,rfl,_,_,rfl,rfl,_,_,rfl,rfl,_,_,rfl,rfl,rfl⟩:=h;rfl
theorem aur{cs:List Value}{d:I.Field}(h:(bs.ty 136).rd F w cs d):I.jC.rd F w cs d:=by
 change fh (λ t=>(fM IW t).ty) F w [.s,.i .i64,.s] cs (d.Name,d.Kind.Kind,d.Kind.ap,())at h;obtain⟨_,_,rfl,rfl,_,_,rfl,rfl,_,_,rfl,rfl,rfl⟩:=h;rfl
theorem auu{cs:List Value}{d:I.Method}(h:(bs.ty 131).rd F w cs d):I.rn.rd F w cs d:=by
 change fh (λ t=>(fM Nx t).ty) F w [.s,.b,.l 128,.i .i64,.s,.i .i64,.i .i64,.s,.l 157] cs (d.Name,d.Static,d.cD,d.Returns.Kind,d.Returns.ap,d.hQ,d.hN,d.Code,d.cL,())at h;obtain⟨_,_,rfl,rfl,_,_,rfl,rfl,_,_,rfl,a,_,_,rfl,rfl,_,_,rfl,rfl,_,_,rfl,rfl,_,_,rfl,rfl,_,_,rfl,rfl,_,_,rfl,J,rfl⟩:=h;have a:(b5 (bs.ty 128)).rd F w [_] d.cD:=a;have J:(b5 (bs.ty 157)).rd F w [_] d.cL:=J;obtain⟨A,c,rfl⟩:=mz _ a;obtain⟨cn,b,rfl⟩:=mz _ J;exact⟨A,c,cn,b,rfl,jz (λ _ _=>aut) a,jz (λ _ _=>aus) J⟩
theorem auq{cs:List Value}{d:I.ap}(h:(bs.ty 134).rd F w cs d):I.kI.rd F w cs d:=by
 change fh (λ t=>(fM Nv t).ty) F w [.s,.s,.l 136,.l 131] cs (d.Name,d.c9,d.Fields,d.bp,())at h;obtain⟨_,_,rfl,rfl,_,_,rfl,rfl,_,_,rfl,a,_,_,rfl,J,rfl⟩:=h;have a:(b5 (bs.ty 136)).rd F w [_] d.Fields:=a;have J:(b5 (bs.ty 131)).rd F w [_] d.bp:=J;obtain⟨A,c,rfl⟩:=mz _ a;obtain⟨cn,b,rfl⟩:=mz _ J;exact⟨A,c,cn,b,rfl,jz (λ _ _=>aur) a,jz (λ _ _=>auu) J⟩
theorem aeg{cs:List Value}{d:Int}(h:(bs.ty 3).rd F w cs d):cs=[.int .i64 d]:=by
 change fh (λ t=>(fM FI t).ty) F w [.i .i64] cs (d,())at h;obtain⟨_,_,rfl,rfl,rfl⟩:=h;rfl
theorem aHu{F':Nat->Prop}{cs:List Value}{d:I.Field}(h:I.jC.rd F w cs d):(bs.ty 136).rd F' w cs d:=by
 change cs=_ at h;subst h;change fh (λ t=>(fM IW t).ty) F' w [.s,.i .i64,.s] _ (d.Name,d.Kind.Kind,d.Kind.ap,());exact⟨_,_,rfl,rfl,_,_,rfl,rfl,_,_,rfl,rfl,rfl⟩
theorem aHw{F':Nat->Prop}{cs:List Value}{d:I.Target}(h:I.kJ.rd F w cs d):(bs.ty 166).rd F' w cs d:=by
 change cs=_ at h;subst h;change fh (λ t=>(fM Ny t).ty) F' w [.i .i64,.i .i64] _ (d.ap,d.Method,());exact⟨_,_,rfl,rfl,_,_,rfl,rfl,rfl⟩
theorem aHv{F':Nat->Prop}{cs:List Value}{d:List UInt8}(h:jB.rd F w cs d):(bs.ty 9).rd F' w cs d:=by
 change cs=_ at h;subst h;change fh (λ t=>(fM Nz t).ty) F' w [.s] _ (d,());exact⟨_,_,rfl,rfl,rfl⟩
theorem awP{es:List MapEntry}{d:List (List UInt8×Int)}(h: @jO bs F w 9 3 Kj es d):S2 nj (Value.int .i64) es d:=by
 induction es generalizing d with
 |nil=>cases d with
  |nil=>rfl
  |cons p d=>exact h.elim
 |cons e es a=>cases d with
  |nil=>exact h.elim
  |cons p d=>
   obtain⟨b,⟨xs,J,c⟩,f⟩:=h
   have J:=aeg J
   subst J
   have:=a f
   unfold S2 at this⊢
   rw[eB,eB,this]
   rw[show e.val= .int .i64 p.2 from c,show e.key=nj.enc p.1 from b]
abbrev zT(cs:List I.ap)(b3:List (List UInt8×Int))(jA:List Int):List (aF bs.El):=[.c 117 [.s 134 (cs:List (bs.El 134)),.m 1,.s 3 (jA:List (bs.El 3))],.m 9 3 (b3:List (bs.El 9×bs.El 3))]
theorem ajo{W:World}{M0:List Nat}{X:Nat->Prop}{ρ vs:List Value}{cs:List I.ap}{b3:List (List UInt8×Int)}{jA:List Int}{n:Int}
 (d:Mem bs W M0 X (zT cs b3 jA) ρ w)(m:a8 bs (bk X (zT cs b3 jA) ρ w) w ρ (zT cs b3 jA) [.b 0 0,.p (.int .i64 n)] vs) :
 ∃g A c r cn a,vs=[.pointer (some ⟨g,0,none⟩),.int .i64 n]/\bz w [] [] w [] [bF.jm g [.slice A cs.length c,.map (some r),.slice cn jA.length a],cv I.kI A c cs,bF.map nj (Value.int .i64) r b3,cv (fk .i64) cn a jA]:=by
 have H:=d.len
 obtain⟨J,o⟩:=d.sA (i:=0) rfl
 obtain⟨L,p⟩:=d.sA (i:=1) rfl
 have b0:=d.ok 0 _ _ rfl o
 have D:=d.ok 1 _ _ rfl p
 obtain⟨g,us,rfl,q,s⟩:=b0
 obtain⟨r,rfl,K,b8,es,cl,u,E,G,ag⟩:=D
 simp only[a8,aw]at s m
 obtain⟨M,_,rfl,v,N,_,rfl,⟨O,x,rfl⟩,P,_,rfl,e,rfl⟩:=s
 obtain⟨_,_,rfl,⟨g',z,rfl⟩,_,_,rfl,rfl,rfl⟩:=m
 rw[o]at z
 rw[p]at x
 cases z
 cases x
 obtain⟨A,c,rfl⟩:=mz _ v
 obtain⟨cn,a,rfl⟩:=mz _ e
 have B:∀k,bk X (zT cs b3 jA) ρ w k->im [] w k/\w.heap[k]? =w.heap[k]? :=λ k f=>⟨⟨by simp,f.2.2⟩,rfl⟩
 have j:(cv I.kI A c cs).ok [] w:=jz (λ _ _=>auq) ((b5 (bs.ty 134)).law B v)
 have l:(cv (fk .i64) cn a jA).ok [] w:=jz (λ _ _=>aeg) ((b5 (bs.ty 3)).law B e)
 have C:∀k b,w.heap[k]? =some b->k<w.heap.size:=λ k b f=>by
  rcases gL k w.heap.size with h |h
  ·exact h
  ·rw[ib h]at f;cases f
 obtain rfl:Kj=K:=eJ b8
 refine⟨g,A,c,r,cn,a,rfl,bz.start [] [] w [] _ (by simp) (by simp[bZ]) (by simp) (by simp[bZ]) λ y hy=>?_⟩
 simp only[cI,iH,or_false]at hy
 rcases hy with rfl |rfl |rfl |rfl
 ·exact⟨by simp[bZ],C _ _ q,lp (t:=117) (cs:=[.slice A cs.length c,.map (some r),.slice cn jA.length a]) q⟩
 ·exact j
 ·exact⟨by simp[bZ],C _ _ u,es,cl,u,awP E,G,ag⟩
 ·exact l
end
theorem avF(F:Nat):(aiL F).hS.BC aG 83:=by
 intro da db e2 h W M0 X ρ w vs a d;obtain⟨⟨⟩,n,⟨⟩⟩:=da;obtain⟨⟨cs,⟨⟩,jA,⟨⟩⟩,b3,⟨⟩⟩:=db;have h:ee _ (I.uI F ⟨cs,b3,jA⟩ n)=some e2:=h;obtain⟨r,f,rfl⟩:=cz.1 h;have a:Mem bs W M0 X (zT cs b3 jA) ρ w:=a;obtain⟨g,A,c,q,cn,s,rfl,aj⟩:=ajo a d;refine⟨⟨.ret (.r 2 0),zT cs b3 jA++[.r 136 0 0 (r:List (bs.El 136))],[]⟩,by kernel_rfl,?_⟩;refine(auT aj f).mono λ e w' ⟨u,c1,xs,i,b⟩=>?_;obtain⟨j,l⟩:=a.st1 b (t:=136) rfl λ _ _ _ m _=>aHu m;refine⟨_,j,l,λ k o _=>b.bY.block k o (by simp),?_⟩;subst i;have p:ρ.length=2:=a.len;exact⟨trivial,_,by rw[fq (by omega),p];rfl,cT _,λ _=>rfl⟩
theorem avG(F:Nat):(aiM F).hS.BC aG 82:=by
 intro da db e2 h W M0 X ρ w vs a i;obtain⟨⟨⟩,n,⟨⟩⟩:=da;obtain⟨⟨cs,⟨⟩,jA,⟨⟩⟩,b3,⟨⟩⟩:=db;have h:ee _ (I.DG F ⟨cs,b3,jA⟩ n)=some e2:=h;obtain⟨r,j,rfl⟩:=cz.1 h;have a:Mem bs W M0 X (zT cs b3 jA) ρ w:=a;obtain⟨g,A,c,q,cn,s,rfl,aj⟩:=ajo a i;refine⟨⟨.ret (.u [.r 2 0,.r 3 0]),zT cs b3 jA++[.r 9 0 0 (r.1 :List (bs.El 9)),.r 166 0 0 (r.2 :List (bs.El 166))],[]⟩,by kernel_rfl,?_⟩;refine(auU aj j).mono λ e w' ⟨u,c1,xs,v,c2,ys,l,d⟩=>?_;obtain⟨m,o⟩:=a.st2 d (t:=9) (t':=166) rfl (λ _ _ _ b _=>aHv b) rfl λ _ _ _ b _=>aHw b;refine⟨_,m,o,λ k p _=>d.bY.block k p (by simp),?_⟩;subst l;have f:ρ.length=2:=a.len;refine⟨_,rfl,_,_,rfl,⟨trivial,_,by rw[fq (by omega),f];rfl,cT _,λ _=>rfl⟩,_,_,rfl,⟨trivial,_,by rw[fq (by omega),f];rfl,cT _,λ _=>rfl⟩,rfl⟩
theorem aui:jg.Ok:=⟨⟨λ g h e=>(by cases e),λ g h e=>(by cases e)⟩,λ g fn c _ _ _=>uG (λ _=>rfl) c⟩
theorem auK(F:Nat):(MD F).Ok:=
 ((aFi jV (aFh jV (aFg jV (aFf jV (aFe jV aui))))).pd (f:=82) (by kernel_rfl) λ ys bl r a=>Nh (avG F) ys bl r (Ay a)).pd (f:=83) (by kernel_rfl) λ ys bl r a=>Nh (avF F) ys bl r (Ay a)
end Go.Proofs.YteeliipnilghaaaGreat
namespace bc
open Go Go.RowKit ay I
section
variable{El:Nat->Type}
def M1(bl:List (aF El)):aI El->Option (aI El)
 | .p u=>some (.p u)
 | .s t l=>some (.s t l)
 | .q t l=>some (.s t l)
 | .r i g=>match nth bl i with
   |some (.r t a _ l)=>match cy g a with
    |true=>some (.s t l)
    |false=>none
   |_=>none
 |_=>none
def ID(bl:List (aF El)):List (aI El)->Option (List (aI El))
 |[]=>some []
 |y::r=>match M1 bl y,ID bl r with
  |some a,some b=>some (a::b)
  |_,_=>none
def TD(bl:List (aF El)):aI El->Option (aI El)
 | .a cs=>(ID bl cs).map .a
 |y=>M1 bl y
def IE(bl:List (aF El)):List (aI El)->Option (List (aI El))
 |[]=>some []
 |y::r=>match TD bl y,IE bl r with
  |some a,some b=>some (a::b)
  |_,_=>none
def aix:List (aI El)->Bool
 |[]=>false
 | .r _ _::_=>true
 |_::r=>aix r
def Xy:List (aI El)->Bool
 |[]=>false
 | .r _ _::_=>true
 | .a cs::r=>aix cs||Xy r
 |_::r=>Xy r
def TE(g:List (aI El)->List (aF El)->D (fu El))(ys:List (aI El))(bl:List (aF El)):D (fu El):=match Xy ys,IE bl ys with
 |true,some a=>(g a []).bind λ r=>match r.e with
  | .ret (.p u)=>.ok ⟨.ret (.p u),bl,[]⟩
  |_=>.no
 |_,_=>g ys bl
end
section
variable{T:bT}{W w:World}{M0:List Nat}{X:Nat->Prop}{bl:List (aF T.El)}{ρ:List Value}
theorem aed(j:Mem T W M0 X bl ρ w){y d:aI T.El}{v:Value}(h:M1 bl y=some d)(a:aw T (bk X bl ρ w) w ρ bl y v):aw T (bk (λ _=>False) ([]:List (aF T.El)) [] w) w [] [] d v:=by
 have c:∀ {b:List (aF T.El)}{k:Nat},bk X b ρ w k->bk (λ _=>False) ([]:List (aF T.El)) [] w k/\w.heap[k]? =w.heap[k]? :=λ m=>⟨⟨λ h=>h,λ⟨i,B,u,e,J,_⟩=>by simp at J,m.2.2⟩,rfl⟩
 unfold M1 at h;split at h
 ·cases h;simp only[aw]at a⊢;exact a
 ·cases h;simp only[aw]at a⊢;exact(b5 _).law (λ k=>c) a
 ·cases h;simp only[aw]at a⊢;exact(b5 _).law (λ k=>c) a.1
 ·rename_i i g
  split at h
  ·rename_i t n k l hi
   rw[dh]at hi
   split at h
   ·rename_i ag
    have ag:=bd ag
    cases h
    simp only[aw]at a⊢
    obtain⟨_,u,e,_,f⟩:=a
    rw[hi]at f
    obtain rfl:=f ag
    have o:=(j.freeze hi).1.ok i (.z t n k l) _ (gv (aP.1 hi).1) e
    exact(b5 (T.ty t)).law (λ k=>c) (o:(b5 (T.ty t)).rd _ w [_] l)
   ·cases h
  ·cases h
 ·cases h
theorem aee(c:Mem T W M0 X bl ρ w):∀ {ys a:List (aI T.El)}{vs:List Value},ID bl ys=some a->a8 T (bk X bl ρ w) w ρ bl ys vs->a8 T (bk (λ _=>False) ([]:List (aF T.El)) [] w) w [] [] a vs
 |[],a,vs,h,b=>by
  simp only[ID,aH]at h;subst h;simpa only[a8]using b
 |y::r,a,vs,h,b=>by
  simp only[ID]at h;split at h
  ·rename_i i j d J
   cases h
   simp only[a8]at b⊢
   obtain⟨u,us,e,f,g⟩:=b
   exact⟨u,us,e,aed c d f,aee c J g⟩
  ·cases h
theorem aup(b:Mem T W M0 X bl ρ w){y c:aI T.El}{v:Value}(h:TD bl y=some c)(a:aw T (bk X bl ρ w) w ρ bl y v):aw T (bk (λ _=>False) ([]:List (aF T.El)) [] w) w [] [] c v:=by
 unfold TD at h;split at h
 ·rename_i cs
  obtain⟨f,d,rfl⟩:=cz.1 h
  simp only[aw]at a⊢
  obtain⟨vs,e,a⟩:=a
  exact⟨vs,e,aee b d a⟩
 ·exact aed b h a
theorem aef(c:Mem T W M0 X bl ρ w):∀ {ys a:List (aI T.El)}{vs:List Value},IE bl ys=some a->a8 T (bk X bl ρ w) w ρ bl ys vs->a8 T (bk (λ _=>False) ([]:List (aF T.El)) [] w) w [] [] a vs
 |[],a,vs,h,b=>by
  simp only[IE,aH]at h;subst h;simpa only[a8]using b
 |y::r,a,vs,h,b=>by
  simp only[IE]at h;split at h
  ·rename_i i j d J
   cases h
   simp only[a8]at b⊢
   obtain⟨u,us,e,f,g⟩:=b
   exact⟨u,us,e,aup c d f,aef c J g⟩
  ·cases h
end
section
variable{E:Env}{f:Nat}{t:cW E}
theorem au9(l:E.cY=[]){g:List (aI E.T.El)->List (aF E.T.El)->D (fu E.T.El)}(hc:kj E f g):kj E f (TE g):=by
 intro ys bl r c W M0 X ρ w vs h d j;unfold TE at c;split at c
 ·rename_i m _ ag
  obtain⟨n,o,a⟩:=D.j9 c
  split at a
  ·rename_i u p
   have a:(⟨.ret (.p u),bl,[]⟩:fu E.T.El)=r:=a
   subst a
   refine(hc m [] n o w [] (λ _=>False) [] w vs (ajy w) (λ g y d=>by rw[l]at d;simp[cG]at d) (aef h ag j)).mono λ e w' ⟨ρ',i,_,_,b⟩=>?_
   refine⟨ρ,h.e8 i.bY,Mem.ta i.bY,λ k q _=>i.bY.block k q (by simp),?_⟩
   rw[p]at b
   cases e with
   |returned v=>
    simp only[Co,aw]at b⊢
    exact b
   |panicked qB=>exact b.elim
   |outgrown=>exact b.elim
  ·exact a.elim
 ·exact hc ys bl r c W M0 X ρ w vs h d j
noncomputable def cW.tX(t:cW E)(f:Nat):cW E:=t.f f (TE (t.bu f))
theorem cW.Ok.tX(a7:di E)(a:E.cY=[])(h:t.Ok){f:Nat}(ad:ff E.cf f=true):(t.tX f).Ok:=
 h.pd ad (au9 a λ ys bl r b=>((lr a7 h.ce h.le 100).ok f ys bl r b).2)
end
end bc
namespace bc
open Go Go.RowKit ay I
structure aQ (E:Env) where
 t:cW E
 ok:di E->t.Ok
 cY:E.cY=[]
section
variable{E:Env}
noncomputable def aQ.rt(s:aQ E)(f:Nat)(c:h_ E.T)(a:c.Eq E s.t.bu s.t.LE f)(ad:ff E.cf f=true:=by kernel_rfl):aQ E:=⟨s.t.f f (c.run E),λ h=>(s.ok h).rt h s.cY ad a,s.cY⟩
noncomputable def aQ.wh(s:aQ E)(f:Nat)(c:h_ E.T)(a:c.Eq E s.t.bu s.t.LE f)(ad:ff E.cf f=true:=by kernel_rfl):aQ E:=⟨s.t.wh f c,λ h=>(s.ok h).axN h s.cY ad a,s.cY⟩
noncomputable def aQ.QA(s:aQ E)(f:Nat)(c:rV E.T)(a:c.Eq E s.t.bu s.t.LE f)(ad:ff E.cf f=true:=by kernel_rfl):aQ E:=⟨s.t.f f (c.run E),λ h=>(s.ok h).QA h s.cY ad a,s.cY⟩
noncomputable def aQ.fn(s:aQ E)(f:Nat)(c:ey E.T)(a:c.Eq E s.t.bu s.t.LE f)(ad:ff E.cf f=true:=by kernel_rfl):aQ E:=⟨s.t.f f (c.run E),λ h=>(s.ok h).fn h s.cY ad a,s.cY⟩
noncomputable def aQ.jk(s:aQ E)(f:Nat)(c:kN E.T)(a:c.Eq E s.t.bu s.t.LE f)(ad:ff E.cf f=true:=by kernel_rfl):aQ E:=⟨s.t.f f (c.run E),λ h=>(s.ok h).jk h s.cY ad a,s.cY⟩
noncomputable def aQ.FM(s:aQ E)(f:Nat)(c:ey E.T)(a:c.Eq E s.t.bu s.t.LE f)(ad:ff E.cf f=true:=by kernel_rfl):aQ E:=⟨s.t.FM f c,λ h=>(s.ok h).axK h s.cY ad a,s.cY⟩
noncomputable def aQ.tX(s:aQ E)(f:Nat)(ad:ff E.cf f=true:=by kernel_rfl):aQ E:=⟨s.t.tX f,λ h=>(s.ok h).tX h s.cY ad,s.cY⟩
noncomputable def aQ.add(s:aQ E)(f:Nat)(r:List (aI E.T.El)->List (aF E.T.El)->D (fu E.T.El))(hc:kj E f r)(ad:ff E.cf f=true:=by kernel_rfl):aQ E:=⟨s.t.f f r,λ h=>(s.ok h).pd ad hc,s.cY⟩
noncomputable def aQ.akw(s:aQ E)(g i:Nat)(r:eP E.T.El->D (b9 E.T.El))(x y:Code)(a:di E->g∈E.cf->yB E ⟨fz E.P g,[]⟩ r x y)(b:DY E.P g i=some (x,y):=by kernel_rfl):aQ E:=⟨s.t.l g (1000000+i) r,λ h=>(s.ok h).auc b (a h),s.cY⟩
noncomputable def aQ.b1(s:aQ E)(g i F:Nat)(c:bO E.T)(a:c.uF.nZ E s.t.bu (s.t.LE g) (fz E.P g) i (ht E.P g i))(b:oK E.P g i=true:=by kernel_rfl):aQ E:=⟨s.t.l g i (c.run E F),λ h=>(s.ok h).b1 h s.cY b a F,s.cY⟩
noncomputable def aQ.Kx(s:aQ E)(g i F:Nat)(c:bO E.T)(a:c.uF.nZ E s.t.bu (s.t.LE g) (fz E.P g) i (ht E.P g i))(b:oK E.P g i=true:=by kernel_rfl):aQ E:=⟨s.t.Kx g i c F,λ h=>(s.ok h).aDW h s.cY b a F,s.cY⟩
noncomputable def aQ.gd(s:aQ E)(g i F:Nat)(c:fB E.T)(a:c.Eq E s.t.bu (s.t.LE g) (fz E.P g) i (ht E.P g i))(b:oK E.P g i=true:=by kernel_rfl):aQ E:=⟨s.t.l g i (c.run E F),λ h=>(s.ok h).gd h s.cY b a F,s.cY⟩
noncomputable def aQ.O'(s:aQ E)(g i F:Nat)(c:fB E.T)(a:c.Eq E s.t.bu (s.t.LE g) (fz E.P g) i (ht E.P g i))(b:oK E.P g i=true:=by kernel_rfl):aQ E:=⟨s.t.O' g i c F,λ h=>(s.ok h).aDV h s.cY b a F,s.cY⟩
end
end bc
