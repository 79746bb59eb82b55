/- Part 4 of the proof that is ended in the last text: small logic, what the functions compute, walks, plain laws. -/
import Derived.Test.YteeliipnilghaaaGreatGs3
import Derived.Test.YteeliipnilghaaaGreatChecked
import Derived.KernelRfl
open Array renaming getElem?_eq_none->hG
open Bool renaming and_eq_true->ca,not_eq_true'->gG
open List renaming cons.injEq->hq,flatMap_cons->hz,getElem?_append_right->eA,getElem?_eq_some_iff->ba,getElem?_set_self->fE,length->hr,length_reverse->kh,map_cons->ea,mem_append_left->eS,mem_cons->cG,mem_flatMap->g_,mem_singleton->dm,nodup_append->eT,not_mem_nil->hI,range->dR
open Nat renaming beq->cx,decEq->kr,eq_of_beq_eq_true->bF,le_refl->cP,le_trans->fR,lt_or_ge->fO
open Option renaming bind->dP,map->dL,map_eq_some_iff->cF,some.inj->ee,some.injEq->aM
noncomputable section
namespace a7
open Go Go.RowKit aw I
structure iN (T:bQ) where
 pas:List cy
 pbs:List bJ
 eM:List cy
 dw:List bJ
 R:Type
 fn:dy T.El pas×cK T.El pbs->Option R
 pL:dy T.El pas×cK T.El pbs->R->dy T.El eM×cK T.El dw
def iN.iu{T:bQ}(c:iN T):er T:=⟨c.pas,c.pbs,c.eM,c.dw,λ d=>(c.fn d).map (c.pL d)⟩
def iN.run(E:Env)(c:iN E.T)(ys:List (aL E.T.El))(bl:List (aG E.T.El)):D (fS E.T.El):=match hx [] c.pas c.pbs bl ys with
 |(a,b)=>match lf c.pbs c.dw,jx a [] false c.pas c.pbs b with
  |true,some (d,sel)=>.op (c.fn d) λ r=>.ok ⟨.ret (sM (gZ (jV sel a.length) (fU a sel c.dw) c.eM (c.pL d r).1)),hd a sel c.dw (c.pL d r).2,sel⟩
  |_,_=>.no
def iN.axj{T:bQ}(c:iN T)(d:dy T.El c.pas×cK T.El c.pbs)(r:c.R):dy T.El c.eM×cK T.El c.dw:=c.pL d r
def iN.Eq(E:Env)(bw:fP E)(LE:mQ E)(f:Nat)(c:iN E.T):Prop:=∀(da:dy E.T.El c.pas)(db:cK E.T.El c.pbs),(pV E bw LE f (gZ id (ch false c.pbs) c.pas da) (bN id (ch false c.pbs) false c.pbs db)).run c.iu.fin=(c.fn (da,db)).map (c.axj (da,db))
structure ht (T:bQ) (pas:List cy) (pbs:List bJ) where
 w:lE
 R:Type
 pL:dy T.El pas×cK T.El pbs->R->Aw T.El w
@[reducible] def Kv{T:bQ}{pas:List cy}{pbs:List bJ}:List (ht T pas pbs)->Type
  |[]=>Empty
  |[w]=>w.R
  |w::v::r=>w.R⊕Kv (v::r)
@[reducible] def JR{T:bQ}{pas:List cy}{pbs:List bJ}:List (ht T pas pbs)->List lE
  |[]=>[]
  |w::r=>w.w::JR r
def bS{T:bQ}{pas:List cy}{pbs:List bJ}(d:dy T.El pas×cK T.El pbs):(ws:List (ht T pas pbs))->Kv ws->Ax T.El (JR ws)
 |[],r=>r.elim
 |[w],r=>w.pL d r
 |w::v::ws,r=>match r with
  | .inl a=>.inl (w.pL d a)
  | .inr b=>.inr (bS d (v::ws) b)
structure bM (T:bQ) where
 ss:List Nat
 pas:List cy
 pbs:List bJ
 ws:List (ht T pas pbs)
 fn:Nat->dy T.El pas×cK T.El pbs->Option (Kv ws)
def bM.wB{T:bQ}(c:bM T):f' T:=⟨c.ss,c.pas,c.pbs,JR c.ws,λ k d=>(c.fn k d).map λ r=>bS d c.ws r⟩
def aay(E:Env){pas:List cy}{pbs:List bJ}(bl:List (aG E.T.El))(sel us:List Nat)(d:dy E.T.El pas×cK E.T.El pbs):(ws:List (ht E.T pas pbs))->Option (Kv ws)->D (b9 E.T.El)
 |[],_=>.no
 |[w],o=>.op o λ r=>R6 E bl sel us w.w (w.pL d r)
 |w::v::ws,o=>.w6 o (λ r=>R6 E bl sel us w.w (w.pL d r)) (λ q=>aay E bl sel us d (v::ws) (some q))
def bM.run(E:Env)(F:Nat)(c:bM E.T)(s:fg E.T.El):D (b9 E.T.El):=match rl E s.bl s.f [] (c.ss.map .tmp)with
 |some ys=>match hx [] c.pas c.pbs s.bl ys with
  |(a,b)=>match Ja c.pbs (JR c.ws)&&(lf c.pbs c.pbs&&uQ c.pbs c.pbs),jx a [] false c.pas c.pbs b with
   |true,some (d,sel)=>aay E a sel s.ws d c.ws (c.fn F d)
   |_,_=>.no
 |none=>.no
def cX.yj{E:Env}(t:cX E)(g:Nat)(c:iN E.T):cX E:=t.f g λ ys bl=>match c.iu.fit E ys bl with
 |true=>c.run E ys bl
 |false=>t.bw g ys bl
def cX.ME{E:Env}(t:cX E)(g i:Nat)(c:bM E.T)(F:Nat):cX E:=t.l g i λ s=>match c.wB.fit E s with
 |true=>c.run E F s
 |false=>match t.LE g i with
  |some h=>h s
  |none=>.no
structure HF (T:bQ) (pas:List cy) (pbs:List bJ) where
 w:oM
 R:Type
 pL:dy T.El pas×cK T.El pbs->R->Ho T.El w
@[reducible] def Ku{T:bQ}{pas:List cy}{pbs:List bJ}:List (HF T pas pbs)->Type
  |[]=>Empty
  |[w]=>w.R
  |w::v::r=>w.R⊕Ku (v::r)
@[reducible] def Np{T:bQ}{pas:List cy}{pbs:List bJ}:List (HF T pas pbs)->List oM
  |[]=>[]
  |w::r=>w.w::Np r
def HY{T:bQ}{pas:List cy}{pbs:List bJ}(d:dy T.El pas×cK T.El pbs):(ws:List (HF T pas pbs))->Ku ws->Av T.El (Np ws)
 |[],r=>r.elim
 |[w],r=>w.pL d r
 |w::v::ws,r=>match r with
  | .inl a=>.inl (w.pL d a)
  | .inr b=>.inr (HY d (v::ws) b)
structure tF (T:bQ) where
 pas:List cy
 pbs:List bJ
 ws:List (HF T pas pbs)
 fn:dy T.El pas×cK T.El pbs->Option (Ku ws)
def tF.jN{T:bQ}(c:tF T):l_ T:=⟨c.pas,c.pbs,Np c.ws,λ d=>(c.fn d).map λ r=>HY d c.ws r⟩
def ab0(E:Env){pas:List cy}{pbs:List bJ}(bl:List (aG E.T.El))(sel:List Nat)(d:dy E.T.El pas×cK E.T.El pbs):(ws:List (HF E.T pas pbs))->Option (Ku ws)->D (fS E.T.El)
 |[],_=>.no
 |[w],o=>.op o λ r=>Nj E bl sel w.w (w.pL d r)
 |w::v::ws,o=>.w6 o (λ r=>Nj E bl sel w.w (w.pL d r)) (λ q=>ab0 E bl sel d (v::ws) (some q))
def tF.run(E:Env)(c:tF E.T)(ys:List (aL E.T.El))(bl:List (aG E.T.El)):D (fS E.T.El):=match hx [] c.pas c.pbs bl ys with
 |(a,b)=>match MR c.pbs (Np c.ws),jx a [] false c.pas c.pbs b with
  |true,some (d,sel)=>ab0 E a sel d c.ws (c.fn d)
  |_,_=>.no
def tF.Eq(E:Env)(bw:fP E)(LE:mQ E)(f:Nat)(c:tF E.T):Prop:=∀(da:dy E.T.El c.pas)(db:cK E.T.El c.pbs),(pV E bw LE f (gZ id (ch false c.pbs) c.pas da) (bN id (ch false c.pbs) false c.pbs db)).run c.jN.fin=(c.fn (da,db)).map λ r=>HY (da,db) c.ws r
def ou(T:bQ)(t bZ:Nat):iN T:=⟨[.p (.l t)],[],[.p (.R 0)],[.r t false],List (T.El t),λ d=>bE bZ [] d.1.1,λ _ r=>(((),()),(r,()))⟩
section
variable{E:Env}{t:cX E}
theorem zN{c:iN E.T}{ys:List (aL E.T.El)}{bl:List (aG E.T.El)}{r:fS E.T.El}(h:(c.run E ys bl).out r):(c.iu.run E ys bl).out r:=by
 unfold iN.run at h;unfold er.run iN.iu;dsimp only;cases a:hx [] c.pas c.pbs bl ys with
 |mk d e=>
 rw[a]at h;dsimp only at h⊢;split at h;rename_i b J;rw[b,J];obtain⟨q,e1,e2⟩:=h;exact⟨_,by rw[e1];rfl,e2⟩;exact h.elim
theorem amp{pas:List cy}{pbs:List bJ}{bl:List (aG E.T.El)}{sel us:List Nat}{d:dy E.T.El pas×cK E.T.El pbs}:∀ {ws:List (ht E.T pas pbs)}{o:Option (Kv ws)}{r:b9 E.T.El},(aay E bl sel us d ws o).out r->(Jp E bl sel us (JR ws) (o.map (bS d ws))).out r
 |[],o,r,h=>h.elim
 |[w],o,r,h=>by obtain⟨q,e1,e2⟩:=h;exact⟨_,by rw[e1];rfl,e2⟩
 |w::v::ws,o,r,h=>by rcases h with⟨q,e1,e2⟩|⟨q,e1,e2⟩;exact .inl ⟨_,by rw[e1];rfl,e2⟩;exact .inr ⟨_,by rw[e1];rfl,amp e2⟩
theorem akX{c:bM E.T}{F:Nat}{s:fg E.T.El}{r:b9 E.T.El}(h:(c.run E F s).out r):(c.wB.run E F s).out r:=by
 unfold bM.run at h;unfold f'.run bM.wB;dsimp only at h⊢;cases hy:rl E s.bl s.f [] (c.ss.map .tmp)with
 |none=>rw[hy]at h;exact h.elim
 |some ys=>
  rw[hy]at h;dsimp only at h⊢;cases b:hx [] c.pas c.pbs s.bl ys with
  |mk d e=>
  rw[b]at h;dsimp only at h⊢;cases a:Ja c.pbs (JR c.ws)&&(lf c.pbs c.pbs&&uQ c.pbs c.pbs)with
  |false=>rw[a]at h;exact h.elim
  |true=>
   cases J:jx d [] false c.pas c.pbs e with
   |none=>rw[a,J]at h;exact h.elim
   |some ds=>rw[a,J]at h;exact amp h
theorem am9{pas:List cy}{pbs:List bJ}{bl:List (aG E.T.El)}{sel:List Nat}{d:dy E.T.El pas×cK E.T.El pbs}:∀ {ws:List (HF E.T pas pbs)}{o:Option (Ku ws)}{r:fS E.T.El},(ab0 E bl sel d ws o).out r->(Jx E bl sel (Np ws) (o.map λ r=>HY d ws r)).out r
 |[],o,r,h=>h.elim
 |[w],o,r,h=>by obtain⟨q,e1,e2⟩:=h;exact⟨_,by rw[e1];rfl,e2⟩
 |w::v::ws,o,r,h=>by rcases h with⟨q,e1,e2⟩|⟨q,e1,e2⟩;exact .inl ⟨_,by rw[e1];rfl,e2⟩;exact .inr ⟨_,by rw[e1];rfl,am9 e2⟩
theorem aKt{c:tF E.T}{ys:List (aL E.T.El)}{bl:List (aG E.T.El)}{r:fS E.T.El}(h:(c.run E ys bl).out r):(c.jN.run E ys bl).out r:=by
 unfold tF.run at h;unfold l_.run tF.jN;dsimp only;cases a:hx [] c.pas c.pbs bl ys with
 |mk d e=>
 rw[a]at h;dsimp only at h⊢;split at h;rename_i b J;rw[b,J];exact am9 h;exact h.elim
theorem cX.Ok.Sx(a1:dr E)(a:E.cZ=[])(h:t.Ok){f:Nat}(b:fJ E.cm f=true){c:tF E.T}(d:c.Eq E t.bw t.LE f):(t.f f (c.run E)).Ok:=h.qM b λ ys bl r e=>agk a1 (m' a1 h.ce h.le 100) h.le a (c:=c.jN) (λ da db _ g=>(d da db).trans g) ys bl r (aKt e)
theorem cX.Ok.rt(a1:dr E)(a:E.cZ=[])(h:t.Ok){f:Nat}(b:fJ E.cm f=true){c:iN E.T}(d:c.Eq E t.bw t.LE f):(t.f f (c.run E)).Ok:=h.qM b λ ys bl r e=>HW a1 (m' a1 h.ce h.le 100) h.le a (c:=c.iu) (er.Eq.v d) ys bl r (zN e)
theorem cX.Ok.bW(a1:dr E)(b:E.cZ=[])(h:t.Ok){g i:Nat}(a:qg E.P g i=true){c:bM E.T}(d:c.wB.pG E t.bw (t.LE g) (fW E.P g) i (io E.P g i))(F:Nat):(t.l g i (c.run E F)).Ok:=h.O1 a1 a λ e s r f=>h.P7 a1 b a d F e s r (akX f)
theorem cX.Ok.azI(a1:dr E)(b:E.cZ=[])(h:t.Ok){f:Nat}(d:fJ E.cm f=true){c:iN E.T}(e:c.Eq E t.bw t.LE f):(t.yj f c).Ok:=by refine h.qM d λ ys bl r a=>?_;split at a;exact HW a1 (m' a1 h.ce h.le 100) h.le b (c:=c.iu) (er.Eq.v e) ys bl r (zN a);exact((m' a1 h.ce h.le 100).ok f ys bl r a).2
theorem cX.Ok.aFL(a1:dr E)(k:E.cZ=[])(h:t.Ok){g i:Nat}(a:qg E.P g i=true){c:bM E.T}(l:c.wB.pG E t.bw (t.LE g) (fW E.P g) i (io E.P g i))(F:Nat):(t.ME g i c F).Ok:=by
 refine h.O1 a1 a λ f s r d=>?_;split at d;exact h.P7 a1 k a l F f s r (akX d)
 ·split at d
  ·rename_i q m;have v:=a;unfold qg at a;split at a
   ·rename_i b ag;have n:io E.P g i=b:=by unfold io;rw[ag]
    rw[n];unfold sd at ag;split at ag
    ·rename_i fn j;split at ag
     ·rename_i o p;have e:=h.le g fn o f j p;have u:fW E.P g=fn.ntmps:=by unfold fW;rw[j]
      rw[u];exact zk m e ag s r d
     ·simp[fT]at ag
    ·simp[fT]at ag
   ·cases a
  ·exact d.elim
theorem cX.Ok.Na(a1:dr E)(m:E.cZ=[])(h:t.Ok){f b bZ:Nat}(n:fJ E.cm f=true)
 (o:(pV E t.bw t.LE f [.p (.slice none 0 0)] []).run (ou E.T b bZ).iu.fin=some (((),()),([],())))
 (p:∀(a:Addr)(c:Nat),(pV E t.bw t.LE f [.p (.slice (some a) 0 c)] []).run (ou E.T b bZ).iu.fin=some (((),()),([],())))
 (J:∀(d:E.T.El b)(l:List (E.T.El b)),(pV E t.bw t.LE f [.s b (d::l)] []).run (ou E.T b bZ).iu.fin=(bE bZ [] (d::l)).bind λ r=>some (((),()),(r,()))):(t.f f ((ou E.T b bZ).run E)).Ok:=by
 refine h.qM n λ ys bl r q=>HW a1 (m' a1 h.ce h.le 100) h.le m (c:=(ou E.T b bZ).iu) (λ da db F w ρ bl vs j=>?_) ys bl r (zN q)
 obtain⟨l,⟨⟩⟩:=da
 have s:bE bZ ([]:List (E.T.El b)) []=some []:=by simp[bE]
 have k:∀l:List (E.T.El b),(ou E.T b bZ).iu.fn ((l,()),db)=(bE bZ [] l).bind λ r=>some (((),()),(r,())):=λ l=>by
  show dL _ (bE bZ [] l)=_
  cases bE bZ ([]:List (E.T.El b)) l<;>rfl
 cases l with
 |cons d l=>exact⟨_,j,λ r g=>(J d l).trans ((k _).symm.trans g)⟩
 |nil=>
  have ev:aZ E.T F w ρ bl [.s b []] vs:=j;simp only[aZ,av]at ev;obtain⟨u,us,rfl,v,rfl⟩:=ev;obtain⟨A,c,e,e1,e2,e3,_⟩:=v;simp only[hq,and_true]at e;subst e;have i:=k [];rw[s]at i;cases A with
  |none=>rw[e3 rfl];exact⟨[.p (.slice none 0 0)],by simp[aZ,av],λ r g=>o.trans (i.symm.trans g)⟩
  |some a=>exact⟨[.p (.slice (some a) 0 c)],by simp[aZ,av],λ r g=>(p a c).trans (i.symm.trans g)⟩
end
end a7
namespace I
def bb{ρ α:Type}(o:Option (Way ρ α)):Option (α⊕ρ):=match o with
 |none=>none
 |some (.go a)=>some (.inl a)
 |some (.out r)=>some (.inr r)
def dv{α:Type}(p:Prop)(o:Option α):Option α:=@ite _ p (Classical.propDecidable p) o none
theorem dJ{α:Type}{p:Prop}{o:Option α}(h:p):dv p o=o:=by unfold dv;exact lz h
theorem dI{α:Type}{p:Prop}:dv p (none:Option α)=none:=by unfold dv;split<;>rfl
theorem ej{α:Type}{p:Prop}{o:Option α}{r:α}(h:dv p o=some r):p/\o=some r:=by unfold dv at h;split at h;rename_i a;exact⟨a,h⟩;cases h
section
variable{α β cp tq ρ σ:Type}
theorem aGA(o:Option (Way ρ α))(k:α->Option (Way ρ β)):di o k=dd (bb o) k (λ r=>some (.out r)):=by
 cases o with
 |none=>rfl
 |some y=>cases y<;>rfl
theorem aGL(o:Option (Way ρ α))(k:α->Option ρ):cn o k=dd (bb o) k (λ r=>some r):=by
 cases o with
 |none=>rfl
 |some y=>cases y<;>rfl
theorem aGS(a:α):bb (some (.go a):Option (Way ρ α))=some (.inl a):=rfl
theorem aGT(r:ρ):bb (some (.out r):Option (Way ρ α))=some (.inr r):=rfl
theorem aGU:bb (none:Option (Way ρ α))=none:=rfl
theorem aGV(o:Option cp)(f:cp->Option (Way ρ α)):bb (o.bind f)=o.bind λ x=>bb (f x):=by cases o<;>rfl
theorem aGW(c:Bool)(x y:Option (Way ρ α)):bb (cond c x y)=cond c (bb x) (bb y):=by cases c<;>rfl
theorem aGX(o:Option (cp⊕tq))(f:cp->Option (Way ρ α))(g:tq->Option (Way ρ α)):bb (dd o f g)=dd o (λ x=>bb (f x)) (λ x=>bb (g x)):=by
 cases o with
 |none=>rfl
 |some y=>cases y<;>rfl
theorem aGY(a:α)(k:α->Option cp)(l:β->Option cp):dd (some (.inl a)) k l=k a:=rfl
theorem aGB(b:β)(k:α->Option cp)(l:β->Option cp):dd (some (.inr b)) k l=l b:=rfl
theorem aGC(k:α->Option cp)(l:β->Option cp):dd none k l=none:=rfl
theorem aGD(o:Option tq)(f:tq->Option (α⊕β))(k:α->Option cp)(l:β->Option cp):dd (o.bind f) k l=o.bind λ x=>dd (f x) k l:=by cases o<;>rfl
theorem aGE(c:Bool)(x y:Option (α⊕β))(k:α->Option cp)(l:β->Option cp):dd (cond c x y) k l=cond c (dd x k l) (dd y k l):=by cases c<;>rfl
theorem aGF(o:Option (ρ⊕σ))(f:ρ->Option (α⊕β))(g:σ->Option (α⊕β))(k:α->Option cp)(l:β->Option cp):dd (dd o f g) k l=dd o (λ x=>dd (f x) k l) (λ x=>dd (g x) k l):=by
 cases o with
 |none=>rfl
 |some y=>cases y<;>rfl
theorem aGG(o:Option α)(f:α->Option β)(g:β->Option cp):(o.bind f).bind g=o.bind λ x=>(f x).bind g:=by cases o<;>rfl
theorem aGH(a:α)(f:α->Option β):(some a).bind f=f a:=rfl
theorem aGI(f:α->Option β):dP none f=none:=rfl
theorem aGJ(c:Bool)(x y:Option α)(f:α->Option β):(cond c x y).bind f=cond c (x.bind f) (y.bind f):=by cases c<;>rfl
theorem aGK(o:Option (ρ⊕σ))(k:ρ->Option α)(l:σ->Option α)(f:α->Option β):(dd o k l).bind f=dd o (λ x=>(k x).bind f) (λ x=>(l x).bind f):=by
 cases o with
 |none=>rfl
 |some y=>cases y<;>rfl
theorem aGM(o:Option α)(f:α->Option β)(g:β->cp):(o.bind f).map g=o.bind λ x=>(f x).map g:=by cases o<;>rfl
theorem aGN(c:Bool)(x y:Option α)(g:α->cp):(cond c x y).map g=cond c (x.map g) (y.map g):=by cases c<;>rfl
theorem aGO(a:α)(g:α->cp):(some a).map g=some (g a):=rfl
theorem aGP(g:α->cp):dL g none=none:=rfl
theorem aGQ(o:Option (ρ⊕σ))(k:ρ->Option α)(l:σ->Option α)(g:α->cp):(dd o k l).map g=dd o (λ x=>(k x).map g) (λ x=>(l x).map g):=by
 cases o with
 |none=>rfl
 |some y=>cases y<;>rfl
theorem aGR{cU:Type}(k:cU)(b:cU->Option α):join k b=b k:=rfl
def lc{α β:Type}(o:Option (Option α×β)):Option ((α×β)⊕β):=match o with
 |none=>none
 |some (some v,e)=>some (.inl (v,e))
 |some (none,e)=>some (.inr e)
theorem alw(o:Option (Option α×β))(f:Option α×β->Option cp):o.bind f=dd (lc o) (λ p=>f (some p.1,p.2)) (λ e=>f (none,e)):=by rcases o with _ |⟨_ |v,e⟩<;>rfl
theorem alx(v:α)(e:β):lc (some (some v,e))=some (.inl (v,e)):=rfl
theorem aly(e:β):lc (some ((none:Option α),e))=some (.inr e):=rfl
theorem alz:lc (none:Option (Option α×β))=none:=rfl
theorem alA(o:Option cp)(f:cp->Option (Option α×β)):lc (o.bind f)=o.bind λ x=>lc (f x):=by cases o<;>rfl
theorem alB(c:Bool)(x y:Option (Option α×β)):lc (cond c x y)=cond c (lc x) (lc y):=by cases c<;>rfl
theorem alC(o:Option (cp⊕tq))(f:cp->Option (Option α×β))(g:tq->Option (Option α×β)):lc (dd o f g)=dd o (λ x=>lc (f x)) (λ x=>lc (g x)):=by
 cases o with
 |none=>rfl
 |some y=>cases y<;>rfl
theorem aGw(b x:Bool):cond b (some x) (some false)=some (b&&x):=by cases b<;>rfl
theorem aGx{α:Type}(a b:Bool)(x y:Option α):cond a (cond b x y) y=cond (a&&b) x y:=by cases a<;>rfl
theorem Z3{α:Type}(a b:Bool)(x y:Option α):cond a x (cond b x y)=cond (a||b) x y:=by cases a<;>rfl
theorem a':(∀ {α β ρ:Type}(o:Option (Way ρ α))(k:α->Option (Way ρ β)),di o k=dd (bb o) k (λ r=>some (.out r)))/\(∀ {α ρ:Type}(o:Option (Way ρ α))(k:α->Option ρ),cn o k=dd (bb o) k (λ r=>some r))/\(∀ {α ρ:Type}(a:α),bb (some (.go a):Option (Way ρ α))=some (.inl a))/\(∀ {α ρ:Type}(r:ρ),bb (some (.out r):Option (Way ρ α))=some (.inr r))/\(∀ {α ρ:Type},bb (none:Option (Way ρ α))=none)/\(∀ {α cp ρ:Type}(o:Option cp)(f:cp->Option (Way ρ α)),bb (o.bind f)=o.bind λ x=>bb (f x))/\(∀ {α ρ:Type}(c:Bool)(x y:Option (Way ρ α)),bb (cond c x y)=cond c (bb x) (bb y))/\(∀ {α cp tq ρ:Type}(o:Option (cp⊕tq))(f:cp->Option (Way ρ α))(g:tq->Option (Way ρ α)),bb (dd o f g)=dd o (λ x=>bb (f x)) (λ x=>bb (g x)))/\(∀ {α β cp:Type}(a:α)(k:α->Option cp)(l:β->Option cp),dd (some (.inl a)) k l=k a)/\(∀ {α β cp:Type}(b:β)(k:α->Option cp)(l:β->Option cp),dd (some (.inr b)) k l=l b)/\(∀ {α β cp:Type}(k:α->Option cp)(l:β->Option cp),dd none k l=none)/\(∀ {α β cp tq:Type}(o:Option tq)(f:tq->Option (α⊕β))(k:α->Option cp)(l:β->Option cp),dd (o.bind f) k l=o.bind λ x=>dd (f x) k l)/\(∀ {α β cp:Type}(c:Bool)(x y:Option (α⊕β))(k:α->Option cp)(l:β->Option cp),dd (cond c x y) k l=cond c (dd x k l) (dd y k l))/\(∀ {α β cp ρ σ:Type}(o:Option (ρ⊕σ))(f:ρ->Option (α⊕β))(g:σ->Option (α⊕β))(k:α->Option cp)(l:β->Option cp),dd (dd o f g) k l=dd o (λ x=>dd (f x) k l) (λ x=>dd (g x) k l))/\(∀ {α β cp:Type}(o:Option α)(f:α->Option β)(g:β->Option cp),(o.bind f).bind g=o.bind λ x=>(f x).bind g)/\(∀ {α β:Type}(a:α)(f:α->Option β),(some a).bind f=f a)/\(∀ {α β:Type}(f:α->Option β),dP none f=none)/\(∀ {α β:Type}(c:Bool)(x y:Option α)(f:α->Option β),(cond c x y).bind f=cond c (x.bind f) (y.bind f))/\(∀ {α β ρ σ:Type}(o:Option (ρ⊕σ))(k:ρ->Option α)(l:σ->Option α)(f:α->Option β),(dd o k l).bind f=dd o (λ x=>(k x).bind f) (λ x=>(l x).bind f))/\(∀ {α β cp:Type}(o:Option α)(f:α->Option β)(g:β->cp),(o.bind f).map g=o.bind λ x=>(f x).map g)/\(∀ {α cp:Type}(c:Bool)(x y:Option α)(g:α->cp),(cond c x y).map g=cond c (x.map g) (y.map g))/\(∀ {α cp:Type}(a:α)(g:α->cp),(some a).map g=some (g a))/\(∀ {α cp:Type}(g:α->cp),dL g none=none)/\(∀ {α cp ρ σ:Type}(o:Option (ρ⊕σ))(k:ρ->Option α)(l:σ->Option α)(g:α->cp),(dd o k l).map g=dd o (λ x=>(k x).map g) (λ x=>(l x).map g))/\(∀ {α:Type}{cU:Type}(k:cU)(b:cU->Option α),join k b=b k):=⟨aGA,aGL,aGS,aGT,aGU,aGV,aGW,aGX,aGY,aGB,aGC,aGD,aGE,aGF,aGG,aGH,aGI,aGJ,aGK,aGM,aGN,aGO,aGP,aGQ,aGR⟩
end
end I
namespace a7
open Go Go.RowKit aw I
theorem bM.bV{E:Env}{bw:fP E}{LE:pF E}{n id:Nat}{body:Code}{c:bM E.T}(a:∀d,c.fn 0 d=none)
 (b:∀k (da:dy E.T.El c.pas)(db:cK E.T.El c.pbs) q,c.fn (k+1) (da,db)=some q->(den E bw LE n body (BB E c.wB da db)).run (c.wB.fin E id k)=(c.fn (k+1) (da,db)).map λ r=>bS (da,db) c.ws r):c.wB.pG E bw LE n id body:=
 ⟨λ d=>by exact(congrArg (dL _) (a d)).trans rfl,λ k da db r h=>by obtain⟨q,e1,_⟩:=cF.1 h;exact(b k da db q e1).trans h⟩
def okF(P:Program)(f:Nat):Bool:=match P.funcs[f]? with
 |some fn=>!(fn.name== "runtime.NumGoroutine")&& !fn.body.isNone
 |none=>false
theorem alL{P:Program}{f:Nat}(h:okF P f=true)(args:Array Value)(w:World):(callFunc f args).run P w= .ok (.enter f args) w:=by
 unfold okF at h;split at h
 ·rename_i fn a;simp only[ca,gG]at h;have b: ¬fn.name= "runtime.NumGoroutine" :=λ e=>by rw[e]at h;simp at h
  cases ag:fn.body with
  |none=>rw[ag]at h;simp at h
  |some c=>simp[callFunc,go_sem,a,b,ag]
 ·cases h
def RN(P:Program):List Nat->Bool
 |[]=>true
 |f::r=>okF P f&&RN P r
theorem aae{P:Program}:∀ {l:List Nat}{f:Nat},RN P l=true->f∈l->okF P f=true
 |g::r,f,h,aa=>by simp only[RN,ca]at h;rcases cG.1 aa with rfl |aa;exact h.1;exact aae h.2 aa
theorem Sg{α:Type}{A B:dt α}{F F':Nat->Prop}{w w':World}(h:∀cs d,A.rd F w cs d->B.rd F' w' cs d):∀ {l:List α}{xs:List Value},dN A F w xs l->dN B F' w' xs l
 |[],xs,ad=>ad
 |d::r,xs,ad=>by obtain⟨cs,ys,rfl,a,J⟩:=ad;exact⟨cs,ys,rfl,h _ _ a,Sg h J⟩
theorem jC{α:Type}{A B:dt α}{F:Nat->Prop}{w:World}(h:∀cs d,A.rd F w cs d->B.rd F w cs d){xs:List Value}{l:List α}(ad:(b2 A).rd F w xs l):(b2 B).rd F w xs l:=by obtain⟨P,c,e,a,J,b,f⟩:=ad;refine⟨P,c,e,a,J,b,λ g=>?_⟩;obtain⟨i,j,ys,k,m⟩:=f g;exact⟨i,j,ys,Sg h k,m⟩
def DF(P:Program)(T:bQ)(t:Nat)(e:b3 T.El t):Prop:=∀f,e.eq=some f->∀F w xs ys d e',e.ty.rd F w xs d->e.ty.rd F w ys e'->∀(o:Oper)(a:Act)(x y:Operand)(t':TypeId)(b:Bool),o.op= .binOp (cond b .eql .neq) t x y t'->a.eval x= .agg ⟨xs⟩->a.eval y= .agg ⟨ys⟩->∀w',bc P o a w' (.bool (cond b (f d e') (!f d e'))) w'
def VC(P:Program)(T:bQ):List (Σ t,b3 T.El t)->Prop
 |[]=>True
 |p::r=>DF P T p.1 p.2/\VC P T r
theorem VB{P:Program}{T:bQ}{t:Nat}:∀ {es:List (Σ t,b3 T.El t)},VC P T es->DF P T t (gf es t)
 |[],_=>λ f a=>by cases a
 |p::r,h=>by simp only[gf];split;rename_i e _;subst e;exact h.1;exact VB h.2
theorem ga{P:Program}{T:bQ}{t:Nat}{e:b3 T.El t}(h:e.eq=none):DF P T t e:=λ f a=>by rw[h]at a;cases a
section
variable{E:Env}{f:Nat}
theorem ak3(W:World):Mem E.T W [] (λ _=>False) [] [] W:=⟨a_.refl _ _,rfl,λ _ h=>h.elim,λ k ⟨i,B,h,a,_⟩=>by simp at a,λ i j B C h g a=>by simp at a,λ i B h a=>by simp at a⟩
theorem aFq(c:E.cZ=[]){g:List (aL E.T.El)->List (aG E.T.El)->D (fS E.T.El)}(hc:kQ E f g){ys:List (aL E.T.El)}(d:(g ys []).out ⟨.ret (.p (.bool true)),[],[]⟩){W:World}{vs:List Value}(j:aZ E.T (λ k=>k<W.heap.size) W [] [] ys vs) :
 Calls E.P f ⟨vs⟩ W λ e w'=>e= .returned (.bool true)/\a_ [] W w':=by
 have l:aZ E.T (bi (λ _=>False) ([]:List (aG E.T.El)) [] W) W [] [] ys vs:=aZ.later (λ k m=>⟨⟨λ h=>h,λ⟨i,B,h,n,_⟩=>by simp at n,m⟩,rfl⟩) .refl ys j
 refine(hc ys [] _ d W [] (λ _=>False) [] W vs (ak3 W) (λ g y b=>by rw[c]at b;simp[cH]at b) l).mono λ e w' ⟨ρ',o,_,_,a⟩=>?_
 cases e with
 |returned v=>
  have a:v= .bool true:=by simp only[AZ,av]at a;exact a
  exact⟨by rw[a],o.bU⟩
 |panicked Ba=>exact a.elim
 |outgrown=>exact a.elim
end
section
variable{T:bQ}{W w w':World}{M0:List Nat}{X:Nat->Prop}{bl:List (aG T.El)}{ρ:List Value}{E:List a8}{D:List bA}
variable{t sz:Nat}{h:Value}{l:List (T.El t)}{xs:List Value}{R:dt (T.El t)}
variable{t' w7:Nat}{h':Value}{l':List (T.El t')}{fx:List Value}{aff:dt (T.El t')}
theorem aA1{A:Option Addr}{n c k:Nat}(a:k∈ag (.slice A n c)):k∈(Value.slice A n c).ownBlock.toList:=by cases A<;>cases c<;>simp_all [ag,Value.ownBlock]
theorem abX{F:Nat->Prop}{M:List Nat}(a:(a8.row t sz h l xs).ok w')(b:(bA.rows R xs l).ok M w')(e:(T.ty t).size=sz)(f:∀F cs d,R.rd F w' cs d->∀F',(T.ty t).rd F' w' cs d)(g k:Nat):kb T F w' ρ bl (.r t g k l) h:=by subst e;obtain⟨A,c,rfl,_⟩:=Nl a;exact⟨A,c,xs,rfl,.inl a,Sg (λ cs d ad=>f _ _ _ ad _) b⟩
theorem PQ(aj:bu w [] [] w' E D)(hi:a8.row t sz h l xs∈E){g k:Nat}:∀q∈bD (aG.r t g k l:aG T.El) h,q∈(a8.row t sz h l xs).bD/\w.heap.size<=q/\q<w'.heap.size:=λ q d=>by obtain⟨A,c,rfl,_⟩:=Nl (aj.ok _ hi);have a:q∈(a8.row t sz (.slice A l.length c) l xs).bD:=aA1 d;have b:=aj.lt q (g_.2 ⟨_,hi,a⟩);exact⟨a,b.2.resolve_left (by simp),b.1⟩
theorem Mem.st1(b:Mem T W M0 X bl ρ w)(aj:bu w [] [] w' (a8.row t sz h l xs::E) (bA.rows R xs l::D))(c:(T.ty t).size=sz)(e:∀F cs d,R.rd F w' cs d->∀F',(T.ty t).rd F' w' cs d) :
 Mem T W M0 X (bl++[.r t 0 0 l]) (ρ++[h]) w'/\To X bl (bl++[.r t 0 0 l]) ρ (ρ++[h]) w w':=
 ⟨b.push aj.bU (λ q a=>(PQ (xs:=xs) (sz:=sz) aj (by simp) q a).2) (abX (aj.e 0 rfl) (aj.d 0 rfl) c e 0 0),b.C0 aj.bU λ q a=>(PQ (xs:=xs) (sz:=sz) aj (by simp) q a).2⟩
theorem Mem.st2(f:Mem T W M0 X bl ρ w)(aj:bu w [] [] w' (a8.row t sz h l xs::a8.row t' w7 h' l' fx::E) (bA.rows R xs l::bA.rows aff fx l'::D))(i:(T.ty t).size=sz)(j:∀F cs d,R.rd F w' cs d->∀F',(T.ty t).rd F' w' cs d)
 (m:(T.ty t').size=w7)(b:∀F cs d,aff.rd F w' cs d->∀F',(T.ty t').rd F' w' cs d) :
 Mem T W M0 X (bl++[.r t 0 0 l,.r t' 0 0 l']) (ρ++[h,h']) w'/\To X bl (bl++[.r t 0 0 l,.r t' 0 0 l']) ρ (ρ++[h,h']) w w':=by
 have c:=PQ (T:=T) (g:=0) (k:=0) (l:=l) (h:=h) (xs:=xs) (sz:=sz) aj (by simp)
 have e:=PQ (T:=T) (g:=0) (k:=0) (l:=l') (h:=h') (xs:=fx) (sz:=w7) aj (by simp)
 have aK:=aj.bC
 simp only[bT,hz]at aK
 refine⟨f.aml aj.bU (λ q a=>(c q a).2) (λ q a=>(e q a).2) (λ q n J=>?_) (abX (aj.e 0 rfl) (aj.d 0 rfl) i j 0 0) (abX (aj.e 1 rfl) (aj.d 1 rfl) m b 0 0),f.acF aj.bU (λ q a=>(c q a).2) λ q a=>(e q a).2⟩
 exact(eT.1 aK).2.2 q (c q n).1 q (eS _ (e q J).1) rfl
end
def acK{α:Type}(T:dt α):dt α where
 size:=1
 rd F w cs d:=∃a q us,cs=[.pointer (some ⟨a,q,none⟩)]/\F a/\T.rd F w us d/\fF w ⟨a,q,none⟩ us
 len h:=by obtain⟨a,q,us,rfl,_⟩:=h;rfl
 one h v c:=by obtain⟨a,q,us,rfl,_⟩:=h;simp only[dm]at c;subst c;rfl
 law b h:=by obtain⟨a,q,us,rfl,e,J,f⟩:=h;exact⟨a,q,us,rfl,(b a e).1,T.law b J,f.law (b a e).2⟩
def YR{El:Nat->Type}(s:Nat):List (aL El)->Option (El s)
 |[.x t d 0]=>match kr t s with
  | .isTrue h=>some (h▸d)
  | .isFalse _=>none
 |_=>none
section
variable{T:bQ}{F:Nat->Prop}{w:World}{ρ:List Value}{bl:List (aG T.El)}
theorem aDr{s:Nat}{l:List (aL T.El)}{d:T.El s}(h:YR s l=some d){xs:List Value}(b:aZ T F w ρ bl l xs):(acK (T.ty s)).rd F w xs d:=by unfold YR at h;split at h;rename_i t d';split at h;rename_i e _;subst e;simp only[aM]at h;subst h;simp only[aZ]at b;obtain⟨u,us,rfl,c,rfl⟩:=b;simp only[av]at c;obtain⟨a,q,cs,rfl,f,J,g⟩:=c;exact⟨a,q,cs,rfl,f,J,g⟩;cases h;cases h
theorem axg{s:Nat}{d:T.El s}{xs:List Value}(h:(acK (T.ty s)).rd F w xs d):aZ T F w ρ bl [.x s d 0] xs:=by obtain⟨a,q,us,rfl,b,J,c⟩:=h;simp only[aZ];refine⟨_,_,rfl,?_,rfl⟩;simp only[av];exact⟨a,q,us,rfl,b,J,c⟩
end
end a7
namespace Go.Proofs.YteeliipnilghaaaGreat
open Go Go.RowKit aw a7
def cr:Nat->Type:=ag3 [(2,Int),(3,Int),(4,Bool),(5,UInt8),(6,UInt8),(9,List UInt8),(10,List UInt8),(11,List UInt8),(21,Int),(22,List Int),(24,I.aP),(136,I.Field),(128,I.Kind),(157,I.Handler),(131,I.Method),(134,I.al),(25,List I.al),(124,List I.Field),(26,List (List I.Field)),(120,List (List UInt8)),(27,List (List (List UInt8))),(166,I.Target),(121,List I.Target),(28,List (List I.Target)),(30,I.aN),(31,Int),(69,I.b4),(126,List I.Kind),(129,List I.Handler),(132,List I.Method),(192,Int),(202,List (List Int)),(204,List UInt8),(219,UInt8),(220,UInt8),(223,Int),(224,Int),(109,Int)]
def ahc:List (Σ t,b3 cr t):=[]
def e2:b3 cr 2:=fD ahc false [.i .i64] (λ(d:Int)=>(d,())) (λ(p:Int×Unit)=>p.1) none (some wy)
def EP:List (Σ t,b3 cr t):=⟨2,e2⟩::ahc
def e3:b3 cr 3:=fD EP false [.i .i64] (λ(d:Int)=>(d,())) (λ(p:Int×Unit)=>p.1) none (some wy)
def ahw:List (Σ t,b3 cr t):=⟨3,e3⟩::EP
def e4:b3 cr 4:=fD ahw false [.b] (λ(d:Bool)=>(d,())) (λ(p:Bool×Unit)=>p.1) none none
def VH:List (Σ t,b3 cr t):=⟨4,e4⟩::ahw
def e5:b3 cr 5:=fD VH false [.y] (λ(d:UInt8)=>(d,())) (λ(p:UInt8×Unit)=>p.1) none none
def ahz:List (Σ t,b3 cr t):=⟨5,e5⟩::VH
def e6:b3 cr 6:=fD ahz false [.y] (λ(d:UInt8)=>(d,())) (λ(p:UInt8×Unit)=>p.1) none none
def PF:List (Σ t,b3 cr t):=⟨6,e6⟩::ahz
def H3:b3 cr 9:=fD PF false [.s] (λ(d:List UInt8)=>(d,())) (λ(p:(List UInt8)×Unit)=>p.1) none (some Mq)
def ahB:List (Σ t,b3 cr t):=⟨9,H3⟩::PF
def HZ:b3 cr 10:=fD ahB false [.s] (λ(d:List UInt8)=>(d,())) (λ(p:(List UInt8)×Unit)=>p.1) none (some Mq)
def ahd:List (Σ t,b3 cr t):=⟨10,HZ⟩::ahB
def H0:b3 cr 11:=fD ahd false [.s] (λ(d:List UInt8)=>(d,())) (λ(p:(List UInt8)×Unit)=>p.1) none (some Mq)
def ahe:List (Σ t,b3 cr t):=⟨11,H0⟩::ahd
def agM:b3 cr 21:=fD ahe false [.i .i32] (λ(d:Int)=>(d,())) (λ(p:Int×Unit)=>p.1) none none
def ahp:List (Σ t,b3 cr t):=⟨21,agM⟩::ahe
def agO:b3 cr 22:=fD ahp false [.l 3] (λ(d:List Int)=>(d,())) (λ(p:(List Int)×Unit)=>p.1) none none
def ahr:List (Σ t,b3 cr t):=⟨22,agO⟩::ahp
def agS:b3 cr 24:=fD ahr true [.l 3,.i .i64,.i .i64,.i .i64,.i .i64,.l 3,.i .i64] (λ(d:I.aP)=>(d.wO,d.ai,d.az,d.aI,d.aD,d.aJ,d.Next,())) (λ(p:(List Int)×Int×Int×Int×Int×(List Int)×Int×Unit)=>(⟨p.1,p.2.1,p.2.2.1,p.2.2.2.1,p.2.2.2.2.1,p.2.2.2.2.2.1,p.2.2.2.2.2.2.1⟩:I.aP)) none none
def K2:List (Σ t,b3 cr t):=⟨24,agS⟩::ahr
def Vu:b3 cr 136:=fD K2 true [.s,.i .i64,.s] (λ(d:I.Field)=>(d.Name,d.Kind.Kind,d.Kind.al,())) (λ(p:(List UInt8)×Int×(List UInt8)×Unit)=>(⟨p.1,⟨p.2.1,p.2.2.1⟩⟩:I.Field)) (some λ(d e:I.Field)=>decide (d=e)) none
def PC:List (Σ t,b3 cr t):=⟨136,Vu⟩::K2
def Vt:b3 cr 128:=fD PC true [.i .i64,.s] (λ(d:I.Kind)=>(d.Kind,d.al,())) (λ(p:Int×(List UInt8)×Unit)=>(⟨p.1,p.2.1⟩:I.Kind)) (some λ(d e:I.Kind)=>decide (d=e)) none
def PA:List (Σ t,b3 cr t):=⟨128,Vt⟩::PC
def Vv:b3 cr 157:=fD PA true [.i .i64,.i .i64,.i .i64,.s] (λ(d:I.Handler)=>(d.From,d.To,d.At,d.al,())) (λ(p:Int×Int×Int×(List UInt8)×Unit)=>(⟨p.1,p.2.1,p.2.2.1,p.2.2.2.1⟩:I.Handler)) (some λ(d e:I.Handler)=>decide (d=e)) none
def PD:List (Σ t,b3 cr t):=⟨157,Vv⟩::PA
def agG:b3 cr 131:=fD PD true [.s,.b,.l 128,.i .i64,.s,.i .i64,.i .i64,.s,.l 157] (λ(d:I.Method)=>(d.Name,d.Static,d.cD,d.Returns.Kind,d.Returns.al,d.iO,d.iL,d.Code,d.cL,())) (λ(p:(List UInt8)×Bool×(List I.Kind)×Int×(List UInt8)×Int×Int×(List UInt8)×(List I.Handler)×Unit)=>(⟨p.1,p.2.1,p.2.2.1,⟨p.2.2.2.1,p.2.2.2.2.1⟩,p.2.2.2.2.2.1,p.2.2.2.2.2.2.1,p.2.2.2.2.2.2.2.1,p.2.2.2.2.2.2.2.2.1⟩:I.Method)) none none
def PB:List (Σ t,b3 cr t):=⟨131,agG⟩::PD
def agI:b3 cr 134:=fD PB true [.s,.s,.l 136,.l 131] (λ(d:I.al)=>(d.Name,d.dg,d.Fields,d.bn,())) (λ(p:(List UInt8)×(List UInt8)×(List I.Field)×(List I.Method)×Unit)=>(⟨p.1,p.2.1,p.2.2.1,p.2.2.2.1⟩:I.al)) none none
def ahl:List (Σ t,b3 cr t):=⟨134,agI⟩::PB
def agT:b3 cr 25:=fD ahl false [.l 134] (λ(d:List I.al)=>(d,())) (λ(p:(List I.al)×Unit)=>p.1) none none
def VF:List (Σ t,b3 cr t):=⟨25,agT⟩::ahl
def agD:b3 cr 124:=fD VF false [.l 136] (λ(d:List I.Field)=>(d,())) (λ(p:(List I.Field)×Unit)=>p.1) none none
def ahh:List (Σ t,b3 cr t):=⟨124,agD⟩::VF
def agU:b3 cr 26:=fD ahh false [.l 124] (λ(d:List (List I.Field))=>(d,())) (λ(p:(List (List I.Field))×Unit)=>p.1) none none
def VG:List (Σ t,b3 cr t):=⟨26,agU⟩::ahh
def agB:b3 cr 120:=fD VG false [.l 9] (λ(d:List (List UInt8))=>(d,())) (λ(p:(List (List UInt8))×Unit)=>p.1) none none
def ahf:List (Σ t,b3 cr t):=⟨120,agB⟩::VG
def agV:b3 cr 27:=fD ahf false [.l 120] (λ(d:List (List (List UInt8)))=>(d,())) (λ(p:(List (List (List UInt8)))×Unit)=>p.1) none none
def PE:List (Σ t,b3 cr t):=⟨27,agV⟩::ahf
def Vw:b3 cr 166:=fD PE true [.i .i64,.i .i64] (λ(d:I.Target)=>(d.al,d.Method,())) (λ(p:Int×Int×Unit)=>(⟨p.1,p.2.1⟩:I.Target)) (some λ(d e:I.Target)=>decide (d=e)) none
def VE:List (Σ t,b3 cr t):=⟨166,Vw⟩::PE
def agC:b3 cr 121:=fD VE false [.l 166] (λ(d:List I.Target)=>(d,())) (λ(p:(List I.Target)×Unit)=>p.1) none none
def ahg:List (Σ t,b3 cr t):=⟨121,agC⟩::VE
def agW:b3 cr 28:=fD ahg false [.l 121] (λ(d:List (List I.Target))=>(d,())) (λ(p:(List (List I.Target))×Unit)=>p.1) none none
def ahv:List (Σ t,b3 cr t):=⟨28,agW⟩::ahg
def agX:b3 cr 30:=fD ahv true [.l 134,.l 3,.l 124,.l 120,.l 121] (λ(d:I.aN)=>(d.aV,d.aT,d.Fields,d.Names,d.aU,())) (λ(p:(List I.al)×(List Int)×(List (List I.Field))×(List (List (List UInt8)))×(List (List I.Target))×Unit)=>(⟨p.1,p.2.1,p.2.2.1,p.2.2.2.1,p.2.2.2.2.1⟩:I.aN)) none none
def ahx:List (Σ t,b3 cr t):=⟨30,agX⟩::ahv
def agY:b3 cr 31:=fD ahx false [.i .i64] (λ(d:Int)=>(d,())) (λ(p:Int×Unit)=>p.1) none (some wy)
def ahy:List (Σ t,b3 cr t):=⟨31,agY⟩::ahx
def ag0:b3 cr 69:=fD ahy true [.l 134,.l 3,.l 124,.l 120,.l 121] (λ(d:I.b4)=>(d.K.aV,d.K.aT,d.K.Fields,d.K.Names,d.K.aU,())) (λ(p:(List I.al)×(List Int)×(List (List I.Field))×(List (List (List UInt8)))×(List (List I.Target))×Unit)=>(⟨⟨p.1,p.2.1,p.2.2.1,p.2.2.2.1,p.2.2.2.2.1⟩⟩:I.b4)) none none
def ahA:List (Σ t,b3 cr t):=⟨69,ag0⟩::ahy
def agE:b3 cr 126:=fD ahA false [.l 128] (λ(d:List I.Kind)=>(d,())) (λ(p:(List I.Kind)×Unit)=>p.1) none none
def ahi:List (Σ t,b3 cr t):=⟨126,agE⟩::ahA
def agF:b3 cr 129:=fD ahi false [.l 157] (λ(d:List I.Handler)=>(d,())) (λ(p:(List I.Handler)×Unit)=>p.1) none none
def ahj:List (Σ t,b3 cr t):=⟨129,agF⟩::ahi
def agH:b3 cr 132:=fD ahj false [.l 131] (λ(d:List I.Method)=>(d,())) (λ(p:(List I.Method)×Unit)=>p.1) none none
def ahk:List (Σ t,b3 cr t):=⟨132,agH⟩::ahj
def agJ:b3 cr 192:=fD ahk false [.i .i64] (λ(d:Int)=>(d,())) (λ(p:Int×Unit)=>p.1) none (some wy)
def ahm:List (Σ t,b3 cr t):=⟨192,agJ⟩::ahk
def agK:b3 cr 202:=fD ahm false [.l 22] (λ(d:List (List Int))=>(d,())) (λ(p:(List (List Int))×Unit)=>p.1) none none
def ahn:List (Σ t,b3 cr t):=⟨202,agK⟩::ahm
def agL:b3 cr 204:=fD ahn false [.l 5] (λ(d:List UInt8)=>(d,())) (λ(p:(List UInt8)×Unit)=>p.1) none none
def aho:List (Σ t,b3 cr t):=⟨204,agL⟩::ahn
def agN:b3 cr 219:=fD aho false [.y] (λ(d:UInt8)=>(d,())) (λ(p:UInt8×Unit)=>p.1) none none
def ahq:List (Σ t,b3 cr t):=⟨219,agN⟩::aho
def agP:b3 cr 220:=fD ahq false [.y] (λ(d:UInt8)=>(d,())) (λ(p:UInt8×Unit)=>p.1) none none
def ahs:List (Σ t,b3 cr t):=⟨220,agP⟩::ahq
def agQ:b3 cr 223:=fD ahs false [.i .i32] (λ(d:Int)=>(d,())) (λ(p:Int×Unit)=>p.1) none none
def aht:List (Σ t,b3 cr t):=⟨223,agQ⟩::ahs
def agR:b3 cr 224:=fD aht false [.i .i32] (λ(d:Int)=>(d,())) (λ(p:Int×Unit)=>p.1) none none
def ahu:List (Σ t,b3 cr t):=⟨224,agR⟩::aht
def agA:b3 cr 109:=⟨(acK (gf ahu 3).ty:dt (cr 109)),false,λ d=>[.x 3 (d:cr 3) 0],λ l=>(YR (El:=cr) 3 l:Option (cr 109)),none,none⟩
def ay1:List (Σ t,b3 cr t):=⟨109,agA⟩::ahu
def bf:bQ:=⟨cr,ay1⟩
theorem axF:eU bf 109 agA:=⟨λ d F w xs h=>axg (T:=bf) (s:=3) h,λ l d h F w ρ bl xs a=>aDr (T:=bf) (s:=3) h a,(λ K h=>by cases h),λ h d=>rfl⟩
theorem ayb:eU bf 2 e2:=fL trivial (λ _=>rfl) (λ h=>by rfl) (λ K h F w xs k ad=>by cases h;obtain⟨v,vs,rfl,a,rfl⟩:=ad;exact a)
theorem aye:eU bf 3 e3:=fL trivial (λ _=>rfl) (λ h=>by rfl) (λ K h F w xs k ad=>by cases h;obtain⟨v,vs,rfl,a,rfl⟩:=ad;exact a)
theorem ayg:eU bf 4 e4:=fL trivial (λ _=>rfl) (λ h=>by rfl) (λ K h=>by cases h)
theorem ayh:eU bf 5 e5:=fL trivial (λ _=>rfl) (λ h=>by rfl) (λ K h=>by cases h)
theorem ayj:eU bf 6 e6:=fL trivial (λ _=>rfl) (λ h=>by rfl) (λ K h=>by cases h)
theorem ayl:eU bf 9 H3:=fL trivial (λ _=>rfl) (λ h=>by rfl) (λ K h F w xs k ad=>by cases h;obtain⟨v,vs,rfl,a,rfl⟩:=ad;exact a)
theorem axG:eU bf 10 HZ:=fL trivial (λ _=>rfl) (λ h=>by rfl) (λ K h F w xs k ad=>by cases h;obtain⟨v,vs,rfl,a,rfl⟩:=ad;exact a)
theorem axH:eU bf 11 H0:=fL trivial (λ _=>rfl) (λ h=>by rfl) (λ K h F w xs k ad=>by cases h;obtain⟨v,vs,rfl,a,rfl⟩:=ad;exact a)
theorem ax3:eU bf 21 agM:=fL trivial (λ _=>rfl) (λ h=>by rfl) (λ K h=>by cases h)
theorem ax7:eU bf 22 agO:=fL ⟨by kernel_rfl,trivial⟩ (λ _=>rfl) (λ h=>by rfl) (λ K h=>by cases h)
theorem ax8:eU bf 24 agS:=fL ⟨by kernel_rfl,by kernel_rfl,trivial⟩ (λ _=>rfl) (λ h=>by cases h) (λ K h=>by cases h)
theorem axT:eU bf 136 Vu:=fL trivial (λ _=>rfl) (λ h=>by cases h) (λ K h=>by cases h)
theorem axN:eU bf 128 Vt:=fL trivial (λ _=>rfl) (λ h=>by cases h) (λ K h=>by cases h)
theorem axV:eU bf 157 Vv:=fL trivial (λ _=>rfl) (λ h=>by cases h) (λ K h=>by cases h)
theorem axQ:eU bf 131 agG:=fL ⟨by kernel_rfl,by kernel_rfl,trivial⟩ (λ _=>rfl) (λ h=>by cases h) (λ K h=>by cases h)
theorem axS:eU bf 134 agI:=fL ⟨by kernel_rfl,by kernel_rfl,trivial⟩ (λ _=>rfl) (λ h=>by cases h) (λ K h=>by cases h)
theorem ax9:eU bf 25 agT:=fL ⟨by kernel_rfl,trivial⟩ (λ _=>rfl) (λ h=>by rfl) (λ K h=>by cases h)
theorem axL:eU bf 124 agD:=fL ⟨by kernel_rfl,trivial⟩ (λ _=>rfl) (λ h=>by rfl) (λ K h=>by cases h)
theorem ax_:eU bf 26 agU:=fL ⟨by kernel_rfl,trivial⟩ (λ _=>rfl) (λ h=>by rfl) (λ K h=>by cases h)
theorem axJ:eU bf 120 agB:=fL ⟨by kernel_rfl,trivial⟩ (λ _=>rfl) (λ h=>by rfl) (λ K h=>by cases h)
theorem ax':eU bf 27 agV:=fL ⟨by kernel_rfl,trivial⟩ (λ _=>rfl) (λ h=>by rfl) (λ K h=>by cases h)
theorem axX:eU bf 166 Vw:=fL trivial (λ _=>rfl) (λ h=>by cases h) (λ K h=>by cases h)
theorem axK:eU bf 121 agC:=fL ⟨by kernel_rfl,trivial⟩ (λ _=>rfl) (λ h=>by rfl) (λ K h=>by cases h)
theorem aya:eU bf 28 agW:=fL ⟨by kernel_rfl,trivial⟩ (λ _=>rfl) (λ h=>by rfl) (λ K h=>by cases h)
theorem ayc:eU bf 30 agX:=fL ⟨by kernel_rfl,by kernel_rfl,by kernel_rfl,by kernel_rfl,by kernel_rfl,trivial⟩ (λ _=>rfl) (λ h=>by cases h) (λ K h=>by cases h)
theorem ayd:eU bf 31 agY:=fL trivial (λ _=>rfl) (λ h=>by rfl) (λ K h F w xs k ad=>by cases h;obtain⟨v,vs,rfl,a,rfl⟩:=ad;exact a)
theorem ayi:eU bf 69 ag0:=fL ⟨by kernel_rfl,by kernel_rfl,by kernel_rfl,by kernel_rfl,by kernel_rfl,trivial⟩ (λ _=>rfl) (λ h=>by cases h) (λ K h=>by cases h)
theorem axM:eU bf 126 agE:=fL ⟨by kernel_rfl,trivial⟩ (λ _=>rfl) (λ h=>by rfl) (λ K h=>by cases h)
theorem axO:eU bf 129 agF:=fL ⟨by kernel_rfl,trivial⟩ (λ _=>rfl) (λ h=>by rfl) (λ K h=>by cases h)
theorem axR:eU bf 132 agH:=fL ⟨by kernel_rfl,trivial⟩ (λ _=>rfl) (λ h=>by rfl) (λ K h=>by cases h)
theorem axZ:eU bf 192 agJ:=fL trivial (λ _=>rfl) (λ h=>by rfl) (λ K h F w xs k ad=>by cases h;obtain⟨v,vs,rfl,a,rfl⟩:=ad;exact a)
theorem ax0:eU bf 202 agK:=fL ⟨by kernel_rfl,trivial⟩ (λ _=>rfl) (λ h=>by rfl) (λ K h=>by cases h)
theorem ax1:eU bf 204 agL:=fL ⟨by kernel_rfl,trivial⟩ (λ _=>rfl) (λ h=>by rfl) (λ K h=>by cases h)
theorem ax2:eU bf 219 agN:=fL trivial (λ _=>rfl) (λ h=>by rfl) (λ K h=>by cases h)
theorem ax4:eU bf 220 agP:=fL trivial (λ _=>rfl) (λ h=>by rfl) (λ K h=>by cases h)
theorem ax5:eU bf 223 agQ:=fL trivial (λ _=>rfl) (λ h=>by rfl) (λ K h=>by cases h)
theorem ax6:eU bf 224 agR:=fL trivial (λ _=>rfl) (λ h=>by rfl) (λ K h=>by cases h)
theorem anY:A2 bf:=aLe ⟨axF,ax6,ax5,ax4,ax2,ax1,ax0,axZ,axR,axO,axM,ayi,ayd,ayc,aya,axK,axX,ax',axJ,ax_,axL,ax9,axS,axQ,axV,axN,axT,ax8,ax7,ax3,axH,axG,ayl,ayj,ayh,ayg,aye,ayb,trivial⟩
open Go Go.RowKit aw I a7
noncomputable def aE:Env:=⟨Tryz.prog,bf,[],false,(dR 174).drop 2,5,λ l=>l⟩
noncomputable def nP:Env:=⟨Tryz.prog,bf,[],true,(dR 174).drop 2,5,λ l=>l⟩
def j9:cX aE:=⟨[],[]⟩
theorem aG9(a1:dr aE)(h:j9.Ok):(j9.f 37 ((ou aE.T 3 8).run aE)).Ok:=h.Na a1 rfl rfl (by kernel_rfl) (λ a c=>by kernel_rfl) λ d l=>by kernel_rfl
def DC:cX aE:=j9.f 37 ((ou aE.T 3 8).run aE)
theorem aG_(a1:dr aE)(h:DC.Ok):(DC.f 108 ((ou aE.T 136 40).run aE)).Ok:=h.Na a1 rfl rfl (by kernel_rfl) (λ a c=>by kernel_rfl) λ d l=>by kernel_rfl
def tt:cX aE:=DC.f 108 ((ou aE.T 136 40).run aE)
theorem aG'(a1:dr aE)(h:tt.Ok):(tt.f 109 ((ou aE.T 131 128).run aE)).Ok:=h.Na a1 rfl rfl (by kernel_rfl) (λ a c=>by kernel_rfl) λ d l=>by kernel_rfl
def Um:cX aE:=tt.f 109 ((ou aE.T 131 128).run aE)
theorem aHa(a1:dr aE)(h:Um.Ok):(Um.f 110 ((ou aE.T 128 24).run aE)).Ok:=h.Na a1 rfl rfl (by kernel_rfl) (λ a c=>by kernel_rfl) λ d l=>by kernel_rfl
def Un:cX aE:=Um.f 110 ((ou aE.T 128 24).run aE)
theorem aHb(a1:dr aE)(h:Un.Ok):(Un.f 111 ((ou aE.T 157 40).run aE)).Ok:=h.Na a1 rfl rfl (by kernel_rfl) (λ a c=>by kernel_rfl) λ d l=>by kernel_rfl
def ary:cX aE:=Un.f 111 ((ou aE.T 157 40).run aE)
theorem aHS:DF Tryz.prog bf 136 Vu:=by intro f i F w xs ys d e ad hy o a x y t' b c g h w';obtain rfl:=ee i;obtain⟨_,_,rfl,rfl,_,_,rfl,rfl,_,_,rfl,rfl,rfl⟩:=ad;obtain⟨_,_,rfl,rfl,_,_,rfl,rfl,_,_,rfl,rfl,rfl⟩:=hy;cases b;exact ayW c g h;exact ayS c g h
theorem aHR:DF Tryz.prog bf 128 Vt:=by intro f i F w xs ys d e ad hy o a x y t' b c g h w';obtain rfl:=ee i;obtain⟨_,_,rfl,rfl,_,_,rfl,rfl,rfl⟩:=ad;obtain⟨_,_,rfl,rfl,_,_,rfl,rfl,rfl⟩:=hy;cases b;exact ayY c g h;exact ayU c g h
theorem aHT:DF Tryz.prog bf 157 Vv:=by intro f i F w xs ys d e ad hy o a x y t' b c g h w';obtain rfl:=ee i;obtain⟨_,_,rfl,rfl,_,_,rfl,rfl,_,_,rfl,rfl,_,_,rfl,rfl,rfl⟩:=ad;obtain⟨_,_,rfl,rfl,_,_,rfl,rfl,_,_,rfl,rfl,_,_,rfl,rfl,rfl⟩:=hy;cases b;exact ayX c g h;exact ayT c g h
theorem aHU:DF Tryz.prog bf 166 Vw:=by intro f i F w xs ys d e ad hy o a x y t' b c g h w';obtain rfl:=ee i;obtain⟨_,_,rfl,rfl,_,_,rfl,rfl,rfl⟩:=ad;obtain⟨_,_,rfl,rfl,_,_,rfl,rfl,rfl⟩:=hy;cases b;exact ayZ c g h;exact ayV c g h
theorem aha:VC Tryz.prog bf bf.es:=⟨ga rfl,ga rfl,ga rfl,ga rfl,ga rfl,ga rfl,ga rfl,ga rfl,ga rfl,ga rfl,ga rfl,ga rfl,ga rfl,ga rfl,ga rfl,ga rfl,aHU,ga rfl,ga rfl,ga rfl,ga rfl,ga rfl,ga rfl,ga rfl,aHT,aHR,aHS,ga rfl,ga rfl,ga rfl,ga rfl,ga rfl,ga rfl,ga rfl,ga rfl,ga rfl,ga rfl,ga rfl,trivial⟩
theorem ah9:RN Tryz.prog aE.cm=true:=by kernel_rfl
theorem afC(F:Nat->Prop)(w:World)(l:List UInt8)(xs:List Value)(h:dN S4 F w xs l):dN (bf.ty 5) F w xs l:=by refine Sg (A:=S4) (B:=bf.ty 5) (λ cs d h=>?_) h;change fC (λ t=>(gf VH t).ty) F w [.y] cs (d,());exact⟨_,_,h,rfl,rfl⟩
theorem kY:dr aE:=⟨anY,λ f a=>alL (aae ah9 a),by kernel_rfl,λ l=>rfl,afC,λ t=>VB aha⟩
theorem Pw:dr nP:=⟨anY,λ f a=>alL (aae ah9 a),by kernel_rfl,λ l=>rfl,afC,λ t=>VB aha⟩
end Go.Proofs.YteeliipnilghaaaGreat
namespace I
def gL(a:Int)(b:Int)(c:Int):Option (Bool):=some ((decide (b<=a))&&(decide (a<=c)))
def oZ(a:Int)(b:Int)(c:Int):Option (Bool):=some ((decide (b<=a))&&(decide (a<=c)))
def QG(a:Int):Option (Bool):=some ((decide (a=3))||(decide (a=4)))
def FE(b:List UInt8):Nat->Int->Option (Way (Bool) (Unit))
 |0,_=>none
 |bP+1,c=>
  cond (decide (c<(b.length:Int))) ((idx b c).bind λ a=>
  cond (((((decide ((a.toNat:Int)<97))||(decide (122<(a.toNat:Int))))&&((decide ((a.toNat:Int)<65))||(decide (90<(a.toNat:Int)))))&&((decide ((a.toNat:Int)<48))||(decide (57<(a.toNat:Int)))))&&(!decide ((a.toNat:Int)=95))) (some (.out false)) (FE b bP (ap (c+1)))) (some (.go ()))
def p_(F:Nat)(s_:List UInt8):Option (Bool):=
 (bytesOf s_).bind λ a=>
 cn (α:=Unit) (FE a F 0) λ(_:Unit)=>
 some ((!decide (s_=[]))&&(decide ((s_.length:Int)<=20)))
def yX(F:Nat)(a:Kind):Option (Bool):=
 (QG a.Kind).bind λ b=>
 cond (b) ((p_ F a.al).bind λ c=>
 some c) (some (((decide (a.Kind=1))||(decide (a.Kind=2)))&&(decide (a.al=[]))))
def vJ(s_:List UInt8):Nat->Int->Option (Way (Bool) (Unit))
 |0,_=>none
 |bP+1,b=>
  cond (decide (b<(s_.length:Int))) ((idx s_ b).bind λ a=>
  cond (!(((((decide (97<=(a.toNat:Int)))&&(decide ((a.toNat:Int)<=122)))||((decide (65<=(a.toNat:Int)))&&(decide ((a.toNat:Int)<=90))))||((decide (48<=(a.toNat:Int)))&&(decide ((a.toNat:Int)<=57))))||(decide ((a.toNat:Int)=95)))) (some (.out false)) (vJ s_ bP (ap (b+1)))) (some (.go ()))
def qI(F:Nat)(s_:List UInt8):Option (Bool):=
 cn (α:=Unit) (vJ s_ F 0) λ(_:Unit)=>
 some ((decide (1<=(s_.length:Int)))&&(decide ((s_.length:Int)<=20)))
def xV(F:Nat)(a:Kind):Option (Bool):=
 cond ((decide (a.Kind=1))||(decide (a.Kind=2))) (some (decide (a.al=[]))) (cond ((decide (a.Kind=3))||(decide (a.Kind=4))) ((qI F a.al).bind λ b=>
 some b) (some false))
def BT(F:Nat)(b:Method):Nat->Int->Option (Way (Int) (Unit))
 |0,_=>none
 |bP+1,Cp=>
  cond (decide (Cp<(b.cD.length:Int))) ((idx b.cD Cp).bind λ a=>
  (yX F (⟨a.Kind,a.al⟩:Kind)).bind λ c=>
  cond (!c) (some (.out 7)) (BT F b bP (ap (Cp+1)))) (some (.go ()))
def FI(F:Nat)(b:Method):Nat->Int->Option (Way (Int) (Unit))
 |0,_=>none
 |eX+1,c=>
  cond (decide (c<(b.cL.length:Int))) ((idx b.cL c).bind λ a=>
  (p_ F a.al).bind λ d=>
  cond (!d) (some (.out 1)) ((oZ a.From 0 200).bind λ g=>
  cond (!g) (some (.out 3)) ((oZ a.To 0 200).bind λ e=>
  cond (!e) (some (.out 3)) ((oZ a.At 0 200).bind λ f=>
  cond (!f) (some (.out 3)) (FI F b eX (ap (c+1))))))) (some (.go ()))
def ur(F:Nat)(b:Method):Nat->Int->Option (Way (Int) (Unit))
 |0,_=>none
 |iy+1,c=>
  cond (decide (c<(b.cL.length:Int))) ((idx b.cL c).bind λ a=>
  (p_ F a.al).bind λ d=>
  cond (!d) (some (.out 1)) ((oZ a.From 0 200).bind λ e=>
  cond (!e) (some (.out 3)) ((oZ a.To 0 200).bind λ f=>
  cond (!f) (some (.out 3)) ((oZ a.At 0 200).bind λ g=>
  cond (!g) (some (.out 3)) (ur F b iy (ap (c+1))))))) (some (.go ()))
def FH(F:Nat)(a:Method):Option (Int):=
 (p_ F a.Name).bind λ c=>
 cond (!c) (some 1) (cond (((decide (4<(a.cD.length:Int)))||(decide (200<(a.Code.length:Int))))||(decide (4<(a.cL.length:Int)))) (some 2) ((oZ a.iO 0 10).bind λ d=>
 cond (!d) (some 3) ((oZ a.iL 0 10).bind λ e=>
 cond (!e) (some 3) (cn (α:=Unit) (BT F a F 0) λ(_:Unit)=>
 cond (!decide ((⟨a.Returns.Kind,a.Returns.al⟩:Kind)=(⟨0,[]⟩:Kind))) ((yX F (⟨a.Returns.Kind,a.Returns.al⟩:Kind)).bind λ b=>
 cond (!b) (some 7) (cn (α:=Unit) (FI F a F 0) λ(_:Unit)=>
 some 0)) (cn (α:=Unit) (ur F a F 0) λ(_:Unit)=>
 some 0)))))
def FF(F:Nat)(c_:al):Nat->Int->Option (Way (Int) (Unit))
 |0,_=>none
 |bP+1,b=>
  cond (decide (b<(c_.Fields.length:Int))) ((idx c_.Fields b).bind λ a=>
  (p_ F a.Name).bind λ c=>
  cond (!c) (some (.out 1)) ((yX F (⟨a.Kind.Kind,a.Kind.al⟩:Kind)).bind λ d=>
  cond (!d) (some (.out 7)) (FF F c_ bP (ap (b+1))))) (some (.go ()))
def FG(F:Nat)(c_:al):Nat->Int->Option (Way (Int) (Unit))
 |0,_=>none
 |eX+1,b=>
  cond (decide (b<(c_.bn.length:Int))) ((idx c_.bn b).bind λ a=>
  (FH F (⟨a.Name,a.Static,a.cD,(⟨a.Returns.Kind,a.Returns.al⟩:Kind),a.iO,a.iL,a.Code,a.cL⟩:Method)).bind λ c=>
  cond (!decide (c=0)) (some (.out c)) (FG F c_ eX (ap (b+1)))) (some (.go ()))
def yW(F:Nat)(c_:al):Nat->Int->Option (Way (Int) (Unit))
 |0,_=>none
 |iy+1,b=>
  cond (decide (b<(c_.Fields.length:Int))) ((idx c_.Fields b).bind λ a=>
  (p_ F a.Name).bind λ c=>
  cond (!c) (some (.out 1)) ((yX F (⟨a.Kind.Kind,a.Kind.al⟩:Kind)).bind λ d=>
  cond (!d) (some (.out 7)) (yW F c_ iy (ap (b+1))))) (some (.go ()))
def uq(F:Nat)(c_:al):Nat->Int->Option (Way (Int) (Unit))
 |0,_=>none
 |n_+1,b=>
  cond (decide (b<(c_.bn.length:Int))) ((idx c_.bn b).bind λ Ah=>
  (FH F (⟨Ah.Name,Ah.Static,Ah.cD,(⟨Ah.Returns.Kind,Ah.Returns.al⟩:Kind),Ah.iO,Ah.iL,Ah.Code,Ah.cL⟩:Method)).bind λ a=>
  cond (!decide (a=0)) (some (.out a)) (uq F c_ n_ (ap (b+1)))) (some (.go ()))
def Mk(F:Nat)(c_:al):Option (Int):=
 (p_ F c_.Name).bind λ a=>
 cond (!a) (some 1) (cond (!decide (c_.dg=[])) ((p_ F c_.dg).bind λ b=>
 cond (!b) (some 1) (cond ((decide (6<(c_.Fields.length:Int)))||(decide (8<(c_.bn.length:Int)))) (some 2) (cn (α:=Unit) (FF F c_ F 0) λ(_:Unit)=>
 cn (α:=Unit) (FG F c_ F 0) λ(_:Unit)=>
 some 0))) (cond ((decide (6<(c_.Fields.length:Int)))||(decide (8<(c_.bn.length:Int)))) (some 2) (cn (α:=Unit) (yW F c_ F 0) λ(_:Unit)=>
 cn (α:=Unit) (uq F c_ F 0) λ(_:Unit)=>
 some 0)))
def BS(F:Nat)(c:List al):Nat->Int->Option (Way (Int) (Unit))
 |0,_=>none
 |bP+1,d=>
  cond (decide (d<(c.length:Int))) ((idx c d).bind λ b=>
  (Mk F (⟨b.Name,b.dg,b.Fields,b.bn⟩:al)).bind λ a=>
  cond (!decide (a=0)) (some (.out a)) (BS F c bP (ap (d+1)))) (some (.go ()))
def Mj(F:Nat)(a:List al):Option (Int):=
 cond (decide (10<(a.length:Int))) (some 2) (cn (α:=Unit) (BS F a F 0) λ(_:Unit)=>
 some 0)
def DZ(F:Nat)(a:Method):Nat->Int->Option (Way (Int) (Unit))
 |0,_=>none
 |bP+1,b=>
  cond (decide (b<(a.cD.length:Int))) ((idx a.cD b).bind λ c=>
  (xV F c).bind λ d=>
  cond (!d) (some (.out 7)) (DZ F a bP (ap (b+1)))) (some (.go ()))
def D0(F:Nat)(b:Method):Nat->Int->Option (Way (Int) (Unit))
 |0,_=>none
 |eX+1,c=>
  cond (decide (c<(b.cL.length:Int))) ((idx b.cL c).bind λ a=>
  (qI F a.al).bind λ d=>
  cond (!d) (some (.out 1)) ((gL a.From 0 200).bind λ e=>
  cond (!e) (some (.out 3)) ((gL a.To 0 200).bind λ f=>
  cond (!f) (some (.out 3)) ((gL a.At 0 200).bind λ g=>
  cond (!g) (some (.out 3)) (D0 F b eX (ap (c+1))))))) (some (.go ()))
def DY(F:Nat)(a:Method):Option (Int):=
 (qI F a.Name).bind λ c=>
 cond (!c) (some 1) (cond (((decide (4<(a.cD.length:Int)))||(decide (200<(a.Code.length:Int))))||(decide (4<(a.cL.length:Int)))) (some 2) ((gL a.iO 0 10).bind λ d=>
 cond (!d) (some 3) ((gL a.iL 0 10).bind λ e=>
 cond (!e) (some 3) (cn (α:=Unit) (DZ F a F 0) λ(_:Unit)=>
 (xV F (⟨a.Returns.Kind,a.Returns.al⟩:Kind)).bind λ b=>
 cond ((!b)&&((!decide (a.Returns.Kind=0))||(!decide (a.Returns.al=[])))) (some 7) (cn (α:=Unit) (D0 F a F 0) λ(_:Unit)=>
 some 0)))))
def Hx(F:Nat)(b:al):Nat->Int->Option (Way (Int) (Unit))
 |0,_=>none
 |eX+1,c=>
  cond (decide (c<(b.Fields.length:Int))) ((idx b.Fields c).bind λ d=>
  (qI F d.Name).bind λ e=>
  cond (!e) (some (.out 1)) ((idx b.Fields c).bind λ a=>
  (xV F (⟨a.Kind.Kind,a.Kind.al⟩:Kind)).bind λ f=>
  cond (!f) (some (.out 7)) (Hx F b eX (ap (c+1))))) (some (.go ()))
def Hy(F:Nat)(b:al):Nat->Int->Option (Way (Int) (Unit))
 |0,_=>none
 |iy+1,c=>
  cond (decide (c<(b.bn.length:Int))) ((idx b.bn c).bind λ d=>
  (DY F d).bind λ a=>
  cond (!decide (a=0)) (some (.out a)) (Hy F b iy (ap (c+1)))) (some (.go ()))
def AF(F:Nat)(b:al):Nat->Int->Option (Way (Int) (Unit))
 |0,_=>none
 |n_+1,c=>
  cond (decide (c<(b.Fields.length:Int))) ((idx b.Fields c).bind λ d=>
  (qI F d.Name).bind λ e=>
  cond (!e) (some (.out 1)) ((idx b.Fields c).bind λ a=>
  (xV F (⟨a.Kind.Kind,a.Kind.al⟩:Kind)).bind λ f=>
  cond (!f) (some (.out 7)) (AF F b n_ (ap (c+1))))) (some (.go ()))
def AG(F:Nat)(b:al):Nat->Int->Option (Way (Int) (Unit))
 |0,_=>none
 |wx+1,c=>
  cond (decide (c<(b.bn.length:Int))) ((idx b.bn c).bind λ d=>
  (DY F d).bind λ a=>
  cond (!decide (a=0)) (some (.out a)) (AG F b wx (ap (c+1)))) (some (.go ()))
def DJ(F:Nat)(b:List al):Nat->Int->Option (Way (Int) (Unit))
 |0,_=>none
 |bP+1,c=>
  cond (decide (c<(b.length:Int))) (di (α:=Unit) ((idx b c).bind λ a=>
  (qI F a.Name).bind λ d=>
  cond (!d) (some (.out 1)) (cond (!decide (a.dg=[])) ((qI F a.dg).bind λ e=>
  cond (!e) (some (.out 1)) (cond ((decide (6<(a.Fields.length:Int)))||(decide (8<(a.bn.length:Int)))) (some (.out 2)) (di (α:=Unit) (Hx F a F 0) λ(_:Unit)=>
  di (α:=Unit) (Hy F a F 0) λ(_:Unit)=>
  some (.go ())))) (cond ((decide (6<(a.Fields.length:Int)))||(decide (8<(a.bn.length:Int)))) (some (.out 2)) (di (α:=Unit) (AF F a F 0) λ(_:Unit)=>
  di (α:=Unit) (AG F a F 0) λ(_:Unit)=>
  some (.go ()))))) λ(_:Unit)=>
  DJ F b bP (ap (c+1))) (some (.go ()))
def Kw(F:Nat)(a:List al):Option (Int):=
 cond (decide (10<(a.length:Int))) (some 2) (cn (α:=Unit) (DJ F a F 0) λ(_:Unit)=>
 some 0)
def r6(b:List Kind)(c:List Kind):Nat->Int->Option (Way (Bool) (Unit))
 |0,_=>none
 |bP+1,a=>
  cond (decide (a<(b.length:Int))) ((idx b a).bind λ d=>
  (idx c a).bind λ e=>
  cond (!decide (d=e)) (some (.out false)) (r6 b c bP (ap (a+1)))) (some (.go ()))
def xX(F:Nat)(a:List Kind)(b:List Kind):Option (Bool):=
 cond (!decide ((a.length:Int)=(b.length:Int))) (some false) (cn (α:=Unit) (r6 a b F 0) λ(_:Unit)=>
 some true)
def Ek(b:List Field)(c:List Field):Nat->Int->Option (Way (Bool) (Unit))
 |0,_=>none
 |bP+1,a=>
  cond (decide (a<(b.length:Int))) ((idx b a).bind λ d=>
  (idx c a).bind λ e=>
  cond (!decide (d=e)) (some (.out false)) (Ek b c bP (ap (a+1)))) (some (.go ()))
def HC(F:Nat)(a:List Field)(b:List Field):Option (Bool):=
 cond (!decide ((a.length:Int)=(b.length:Int))) (some false) (cn (α:=Unit) (Ek a b F 0) λ(_:Unit)=>
 some true)
def Ej(a:Method)(d:Method):Nat->Int->Option (Way (Bool) (Unit))
 |0,_=>none
 |iy+1,Rr=>
  cond (decide (Rr<(a.cL.length:Int))) ((idx a.cL Rr).bind λ b=>
  (idx d.cL Rr).bind λ c=>
  cond (!decide (b=c)) (some (.out false)) (Ej a d iy (ap (Rr+1)))) (some (.go ()))
def Ei(F:Nat)(c:al)(e:al):Nat->Int->Option (Way (Bool) (Unit))
 |0,_=>none
 |eX+1,Rq=>
  cond (decide (Rq<(c.bn.length:Int))) (di (α:=Unit) ((idx c.bn Rq).bind λ a=>
  (idx e.bn Rq).bind λ b=>
  cond ((!decide (a.Name=b.Name))||(!(a.Static==b.Static))) (some (.out false)) ((xX F a.cD b.cD).bind λ d=>
  cond (!d) (some (.out false)) (cond (((((!decide ((⟨a.Returns.Kind,a.Returns.al⟩:Kind)=(⟨b.Returns.Kind,b.Returns.al⟩:Kind)))||(!decide (a.iO=b.iO)))||(!decide (a.iL=b.iL)))||(!decide (a.Code=b.Code)))||(!decide ((a.cL.length:Int)=(b.cL.length:Int)))) (some (.out false)) (di (α:=Unit) (Ej a b F 0) λ(_:Unit)=>
  some (.go ()))))) λ(_:Unit)=>
  Ei F c e eX (ap (Rq+1))) (some (.go ()))
def Eh(F:Nat)(d:List al)(f:List al):Nat->Int->Option (Way (Bool) (Unit))
 |0,_=>none
 |bP+1,c=>
  cond (decide (c<(d.length:Int))) (di (α:=Unit) ((idx d c).bind λ a=>
  (idx f c).bind λ b=>
  cond ((!decide (a.Name=b.Name))||(!decide (a.dg=b.dg))) (some (.out false)) ((HC F a.Fields b.Fields).bind λ e=>
  cond ((!e)||(!decide ((a.bn.length:Int)=(b.bn.length:Int)))) (some (.out false)) (di (α:=Unit) (Ei F a b F 0) λ(_:Unit)=>
  some (.go ())))) λ(_:Unit)=>
  Eh F d f bP (ap (c+1))) (some (.go ()))
def HB(F:Nat)(a:List al)(b:List al):Option (Bool):=
 cond (!decide ((a.length:Int)=(b.length:Int))) (some false) (cn (α:=Unit) (Eh F a b F 0) λ(_:Unit)=>
 some true)
def AQ(b:aN)(e:aN):Nat->Int->Option (Way (Bool) (Unit))
 |0,_=>none
 |bP+1,a=>
  cond (decide (a<(b.aT.length:Int))) ((idx b.aT a).bind λ c=>
  (idx e.aT a).bind λ d=>
  cond (!decide (c=d)) (some (.out false)) (AQ b e bP (ap (a+1)))) (some (.go ()))
def En(F:Nat)(b:aN)(f:aN):Nat->Int->Option (Way (Bool) (Unit))
 |0,_=>none
 |eX+1,a=>
  cond (decide (a<(b.Fields.length:Int))) ((idx b.Fields a).bind λ c=>
  (idx f.Fields a).bind λ d=>
  (HC F c d).bind λ e=>
  cond (!e) (some (.out false)) (En F b f eX (ap (a+1)))) (some (.go ()))
def Ep(b:aN)(h:aN)(a:Int):Nat->Int->Option (Way (Bool) (Unit))
 |0,_=>none
 |n_+1,Rw=>
  (idx b.Names a).bind λ c=>
  cond (decide (Rw<(c.length:Int))) ((idx b.Names a).bind λ d=>
  (idx d Rw).bind λ e=>
  (idx h.Names a).bind λ f=>
  (idx f Rw).bind λ g=>
  cond (!decide (e=g)) (some (.out false)) (Ep b h a n_ (ap (Rw+1)))) (some (.go ()))
def Eo(F:Nat)(b:aN)(c:aN):Nat->Int->Option (Way (Bool) (Unit))
 |0,_=>none
 |iy+1,a=>
  cond (decide (a<(b.Names.length:Int))) (di (α:=Unit) ((idx b.Names a).bind λ d=>
  (idx c.Names a).bind λ e=>
  cond (!decide ((d.length:Int)=(e.length:Int))) (some (.out false)) (di (α:=Unit) (Ep b c a F 0) λ(_:Unit)=>
  some (.go ()))) λ(_:Unit)=>
  Eo F b c iy (ap (a+1))) (some (.go ()))
def Es(c:aN)(i:aN)(a:Int):Nat->Int->Option (Way (Bool) (Unit))
 |0,_=>none
 |BV+1,b=>
  (idx c.aU a).bind λ d=>
  cond (decide (b<(d.length:Int))) ((idx c.aU a).bind λ e=>
  (idx e b).bind λ f=>
  (idx i.aU a).bind λ g=>
  (idx g b).bind λ h=>
  cond (!decide (f=h)) (some (.out false)) (Es c i a BV (ap (b+1)))) (some (.go ()))
def Er(F:Nat)(b:aN)(c:aN):Nat->Int->Option (Way (Bool) (Unit))
 |0,_=>none
 |wx+1,a=>
  cond (decide (a<(b.aU.length:Int))) (di (α:=Unit) ((idx b.aU a).bind λ d=>
  (idx c.aU a).bind λ e=>
  cond (!decide ((d.length:Int)=(e.length:Int))) (some (.out false)) (di (α:=Unit) (Es b c a F 0) λ(_:Unit)=>
  some (.go ()))) λ(_:Unit)=>
  Er F b c wx (ap (a+1))) (some (.go ()))
def HD(F:Nat)(a:aN)(b:aN):Option (Bool):=
 (HB F a.aV b.aV).bind λ c=>
 cond (((((!c)||(!decide ((b.aT.length:Int)=(a.aT.length:Int))))||(!decide ((a.Fields.length:Int)=(b.Fields.length:Int))))||(!decide ((a.Names.length:Int)=(b.Names.length:Int))))||(!decide ((a.aU.length:Int)=(b.aU.length:Int)))) (some false) (cn (α:=Unit) (AQ a b F 0) λ(_:Unit)=>
 cn (α:=Unit) (En F a b F 0) λ(_:Unit)=>
 cn (α:=Unit) (Eo F a b F 0) λ(_:Unit)=>
 cn (α:=Unit) (Er F a b F 0) λ(_:Unit)=>
 some true)
def D1(b:List al)(d:List UInt8):Nat->Int->Option (Way (Int) (Unit))
 |0,_=>none
 |bP+1,a=>
  cond (decide (a<(b.length:Int))) ((idx b a).bind λ c=>
  cond (decide (c.Name=d)) (some (.out a)) (D1 b d bP (ap (a+1)))) (some (.go ()))
def qH(F:Nat)(a:List al)(b:List UInt8):Option (Int):=
 cn (α:=Unit) (D1 a b F 0) λ(_:Unit)=>
 some (-1)
def Ex(F:Nat)(a:List al):Nat->Int->(List Int)->Option (Way (List Int) (List Int))
 |0,_,_=>none
 |bP+1,b,c=>
  cond (decide (0<=b)) (cond (decide ((a.length:Int)<(c.length:Int))) (some (.out [])) ((bE 8 [b] c).bind λ d=>
  (idx a b).bind λ e=>
  (qH F a e.dg).bind λ f=>
  Ex F a bP f d)) (some (.go c))
def AV(F:Nat)(b:List al)(c:Int):Option (List Int):=
 cn (α:=List Int) (Ex F b F c []) λ(a:List Int)=>
 some a
def AU(F:Nat)(a:List Kind)(c:List al):Nat->Int->Option (Way (Bool) (Unit))
 |0,_=>none
 |bP+1,b=>
  cond (decide (b<(a.length:Int))) ((idx a b).bind λ d=>
  cond (!decide (d.al=[])) ((idx a b).bind λ e=>
  (qH F c e.al).bind λ f=>
  cond (decide (f<0)) (some (.out false)) (AU F a c bP (ap (b+1)))) (AU F a c bP (ap (b+1)))) (some (.go ()))
def Ew(F:Nat)(a:List al)(b:List Kind):Option (Bool):=
 cn (α:=Unit) (AU F b a F 0) λ(_:Unit)=>
 some true
def vF(g:List al)(b:List Int):Nat->(List Field)->Int->Option (List Field)
 |0,_,_=>none
 |bP+1,a,c=>
  cond (decide (c<(b.length:Int))) ((idx b c).bind λ d=>
  (idx g d).bind λ e=>
  (bE 40 a e.Fields).bind λ f=>
  vF g b bP f (ap (c+1))) (some a)
def DI(F:Nat)(b:List al)(c:Int):Option (List Field):=
 (AV F b c).bind λ d=>
 dP (α:=List Field) (vF b d F [] 0) λ(a:List Field)=>
 some a
def tB(b:List (List UInt8))(d:Method):Nat->Int->Option (Int)
 |0,_=>none
 |iy+1,a=>
  cond (decide (a<(b.length:Int))) ((idx b a).bind λ c=>
  cond (!decide (c=d.Name)) (tB b d iy (ap (a+1))) (some a)) (some a)
def Ev(F:Nat)(f:List al)(c:List Int)(d:Int):Nat->(List Target)->(List (List UInt8))->Int->Option ((List Target)×(List (List UInt8)))
 |0,_,_,_=>none
 |eX+1,g,a,e=>
  (idx c d).bind λ h=>
  (idx f h).bind λ i=>
  cond (decide (e<(i.bn.length:Int))) (dP (α:=(List Target)×(List (List UInt8))) ((idx c d).bind λ j=>
  (idx f j).bind λ k=>
  (idx k.bn e).bind λ t=>
  dP (α:=Int) (tB a t F 0) λ(l:Int)=>
  dP (α:=(List Target)×(List (List UInt8))) (cond (decide (l=(a.length:Int))) ((bE 16 a [t.Name]).bind λ m=>
  (bE 16 g [(⟨0,0⟩:Target)]).bind λ n=>
  some (n,m)) (some (g,a))) λ((b,o):(List Target)×(List (List UInt8)))=>
  (idx c d).bind λ p=>
  (idx b l).bind λ u=>
  (some (b.set (l).toNat (⟨p,e⟩:Target))).bind λ q=>
  some (q,o)) λ((r,s):(List Target)×(List (List UInt8)))=>
  Ev F f c d eX r s (ap (e+1))) (some (g,a))
def Eu(F:Nat)(i:List al)(c:List Int):Nat->(List Target)->(List (List UInt8))->Int->Option ((List Target)×(List (List UInt8)))
 |0,_,_,_=>none
 |bP+1,a,b,d=>
  cond (decide (d<(c.length:Int))) (dP (α:=(List Target)×(List (List UInt8))) (dP (α:=(List Target)×(List (List UInt8))) (Ev F i c d F a b 0) λ((e,f):(List Target)×(List (List UInt8)))=>
  some (e,f)) λ((g,h):(List Target)×(List (List UInt8)))=>
  Eu F i c bP g h (ap (d+1))) (some (a,b))
def KC(F:Nat)(c:List al)(d:Int):Option ((List (List UInt8))×(List Target)):=
 (AV F c d).bind λ e=>
 dP (α:=(List Target)×(List (List UInt8))) (Eu F c e F [] [] 0) λ((a,b):(List Target)×(List (List UInt8)))=>
 some (b,a)
def xR(F:Nat)(a:List al):Nat->Int->Option (Way (Int) (Unit))
 |0,_=>none
 |bP+1,b=>
  cond (decide (b<(a.length:Int))) ((idx a b).bind λ c=>
  (qH F a c.Name).bind λ d=>
  cond (!decide (d=b)) (some (.out 6)) (xR F a bP (ap (b+1)))) (some (.go ()))
def DS(a:List al):Nat->Int->Option (Way (Int) (Unit))
 |0,_=>none
 |eX+1,Rt=>
  cond (decide (Rt<(a.length:Int))) ((idx a Rt).bind λ b=>
  (idx a Rt).bind λ c=>
  cond (!((decide (b.Name=[79,98,106,101,99,116]))==(decide (c.dg=[])))) (some (.out 4)) (DS a eX (ap (Rt+1)))) (some (.go ()))
def AK(F:Nat)(a:List al):Nat->Int->Option (Way (Int) (Unit))
 |0,_=>none
 |iy+1,b=>
  cond (decide (b<(a.length:Int))) ((idx a b).bind λ c=>
  cond (!decide (c.dg=[])) ((idx a b).bind λ d=>
  (qH F a d.dg).bind λ e=>
  cond (decide (e<0)) (some (.out 5)) (AK F a iy (ap (b+1)))) (AK F a iy (ap (b+1)))) (some (.go ()))
def DT(F:Nat)(a:List al):Nat->Int->Option (Way (Int) (Unit))
 |0,_=>none
 |n_+1,b=>
  cond (decide (b<(a.length:Int))) ((AV F a b).bind λ c=>
  cond (decide ((c.length:Int)=0)) (some (.out 4)) (DT F a n_ (ap (b+1)))) (some (.go ()))
def DU(F:Nat)(b:List al)(c:Int):Nat->Int->Option (Way (Int) (Unit))
 |0,_=>none
 |BV+1,d=>
  (idx b c).bind λ e=>
  cond (decide (d<(e.Fields.length:Int))) ((idx b c).bind λ f=>
  (idx f.Fields d).bind λ a=>
  (Ew F b [(⟨a.Kind.Kind,a.Kind.al⟩:Kind)]).bind λ g=>
  cond (!g) (some (.out 5)) (DU F b c BV (ap (d+1)))) (some (.go ()))
def DW(F:Nat)(e:List al)(a:Method):Nat->Int->Option (Way (Int) (Unit))
 |0,_=>none
 |Y5+1,b=>
  cond (decide (b<(a.cL.length:Int))) ((idx a.cL b).bind λ c=>
  (qH F e c.al).bind λ d=>
  cond (decide (d<0)) (some (.out 5)) (DW F e a Y5 (ap (b+1)))) (some (.go ()))
def DV(F:Nat)(a:List al)(c:Int):Nat->Int->Option (Way (Int) (Unit))
 |0,_=>none
 |QQ+1,d=>
  (idx a c).bind λ e=>
  cond (decide (d<(e.bn.length:Int))) (di (α:=Unit) ((idx a c).bind λ f=>
  (idx f.bn d).bind λ b=>
  (Ew F a b.cD).bind λ g=>
  cond (!g) (some (.out 5)) ((Ew F a [(⟨b.Returns.Kind,b.Returns.al⟩:Kind)]).bind λ h=>
  cond (!h) (some (.out 5)) (di (α:=Unit) (DW F a b F 0) λ(_:Unit)=>
  some (.go ())))) λ(_:Unit)=>
  DV F a c QQ (ap (d+1))) (some (.go ()))
def AL(F:Nat)(a:List al):Nat->Int->Option (Way (Int) (Unit))
 |0,_=>none
 |wx+1,b=>
  cond (decide (b<(a.length:Int))) (di (α:=Unit) (di (α:=Unit) (DU F a b F 0) λ(_:Unit)=>
  di (α:=Unit) (DV F a b F 0) λ(_:Unit)=>
  some (.go ())) λ(_:Unit)=>
  AL F a wx (ap (b+1))) (some (.go ()))
def DO(a:List Field)(Gd:Int):Nat->Int->Option (Way (Int) (Unit))
 |0,_=>none
 |aDF+1,b=>
  cond (decide (b<Gd)) ((idx a b).bind λ c=>
  (idx a Gd).bind λ d=>
  cond (decide (c.Name=d.Name)) (some (.out 6)) (DO a Gd aDF (ap (b+1)))) (some (.go ()))
def DN(F:Nat)(a:List Field):Nat->Int->Option (Way (Int) (Unit))
 |0,_=>none
 |aDE+1,Gd=>
  cond (decide (Gd<(a.length:Int))) (di (α:=Unit) (di (α:=Unit) (DO a Gd F 0) λ(_:Unit)=>
  some (.go ())) λ(_:Unit)=>
  DN F a aDE (ap (Gd+1))) (some (.go ()))
def vI(a:al)(b:Int):Nat->Int->Option (Way (Int) (Unit))
 |0,_=>none
 |aDH+1,c=>
  cond (decide (c<b)) ((idx a.bn c).bind λ d=>
  (idx a.bn b).bind λ e=>
  cond (decide (d.Name=e.Name)) (some (.out 6)) (vI a b aDH (ap (c+1)))) (some (.go ()))
def vH(F:Nat)(a:al):Nat->Int->Option (Way (Int) (Unit))
 |0,_=>none
 |aDG+1,b=>
  cond (decide (b<(a.bn.length:Int))) (di (α:=Unit) (di (α:=Unit) (vI a b F 0) λ(_:Unit)=>
  some (.go ())) λ(_:Unit)=>
  vH F a aDG (ap (b+1))) (some (.go ()))
def DX(F:Nat)(a:List al):Nat->Int->Option (Way (Int) (Unit))
 |0,_=>none
 |QR+1,b=>
  cond (decide (b<(a.length:Int))) (di (α:=Unit) ((DI F a b).bind λ c=>
  di (α:=Unit) (DN F c F 0) λ(_:Unit)=>
  (idx a b).bind λ d=>
  di (α:=Unit) (vH F d F 0) λ(_:Unit)=>
  some (.go ())) λ(_:Unit)=>
  DX F a QR (ap (b+1))) (some (.go ()))
def AJ(F:Nat)(a:List al)(g:Int)(d:List Int)(e:Int)(h:Int):Nat->Int->Option (Way (Int) (Unit))
 |0,_=>none
 |aj4+1,f=>
  (idx d e).bind λ i=>
  (idx a i).bind λ j=>
  cond (decide (f<(j.bn.length:Int))) ((idx a g).bind λ k=>
  (idx k.bn h).bind λ b=>
  (idx d e).bind λ l=>
  (idx a l).bind λ m=>
  (idx m.bn f).bind λ c=>
  cond (decide (b.Name=c.Name)) (cond (b.Static||c.Static) (some (.out 4)) ((xX F b.cD c.cD).bind λ n=>
  cond (!n) (some (.out 4)) (cond (!decide ((⟨b.Returns.Kind,b.Returns.al⟩:Kind)=(⟨c.Returns.Kind,c.Returns.al⟩:Kind))) (some (.out 4)) (AJ F a g d e h aj4 (ap (f+1)))))) (AJ F a g d e h aj4 (ap (f+1)))) (some (.go ()))
def DR(F:Nat)(a:List al)(b:Int)(e:List Int)(f:Int):Nat->Int->Option (Way (Int) (Unit))
 |0,_=>none
 |aDK+1,c=>
  (idx a b).bind λ d=>
  cond (decide (c<(d.bn.length:Int))) (di (α:=Unit) (di (α:=Unit) (AJ F a b e f c F 0) λ(_:Unit)=>
  some (.go ())) λ(_:Unit)=>
  DR F a b e f aDK (ap (c+1))) (some (.go ()))
def DQ(F:Nat)(c:List al)(d:Int)(a:List Int):Nat->Int->Option (Way (Int) (Unit))
 |0,_=>none
 |aDJ+1,b=>
  cond (decide (b<(ap ((a.length:Int)-1)))) (di (α:=Unit) (di (α:=Unit) (DR F c d a b F 0) λ(_:Unit)=>
  some (.go ())) λ(_:Unit)=>
  DQ F c d a aDJ (ap (b+1))) (some (.go ()))
def DP(F:Nat)(a:List al):Nat->Int->Option (Way (Int) (Unit))
 |0,_=>none
 |aDI+1,b=>
  cond (decide (b<(a.length:Int))) (di (α:=Unit) ((AV F a b).bind λ c=>
  di (α:=Unit) (DQ F a b c F 0) λ(_:Unit)=>
  some (.go ())) λ(_:Unit)=>
  DP F a aDI (ap (b+1))) (some (.go ()))
def Kx(F:Nat)(a:List al):Option (Int):=
 (Kw F a).bind λ h=>
 cond (!decide (h=0)) (some h) (cn (α:=Unit) (xR F a F 0) λ(_:Unit)=>
 (qH F a [79,98,106,101,99,116]).bind λ d=>
 cond (decide (d<0)) (some 5) ((qH F a [69,114,114,111,114]).bind λ e=>
 cond (decide (e<0)) (some 5) (cn (α:=Unit) (DS a F 0) λ(_:Unit)=>
 cn (α:=Unit) (AK F a F 0) λ(_:Unit)=>
 cn (α:=Unit) (DT F a F 0) λ(_:Unit)=>
 (qH F a [69,114,114,111,114]).bind λ b=>
 (DI F a b).bind λ c=>
 (idx a b).bind λ f=>
 cond ((!decide (f.dg=[79,98,106,101,99,116]))||(decide ((c.length:Int)=0))) (some 4) ((idx c 0).bind λ g=>
 cond (!decide (g.Kind.Kind=1)) (some 4) (cn (α:=Unit) (AL F a F 0) λ(_:Unit)=>
 cn (α:=Unit) (DX F a F 0) λ(_:Unit)=>
 cn (α:=Unit) (DP F a F 0) λ(_:Unit)=>
 some 0)))))
def tA(F:Nat)(b:List al):Nat->(List (List Target))->(List (List (List UInt8)))->(List (List Field))->(List Int)->Int->Option (Way (aN×Int) ((List (List Target))×(List (List (List UInt8)))×(List (List Field))×(List Int)))
 |0,_,_,_,_,_=>none
 |bP+1,k,l,m,n,c=>
  cond (decide (c<(b.length:Int))) ((DI F b c).bind λ d=>
  (KC F b c).bind λ a=>
  cond ((decide (12<(d.length:Int)))||(decide (16<(a.1.length:Int)))) (some (.out ((⟨[],[],[],[],[]⟩:aN),2))) ((idx b c).bind λ e=>
  (qH F b e.dg).bind λ f=>
  (bE 8 n [f]).bind λ g=>
  (bE 24 m [d]).bind λ h=>
  (bE 24 l [a.1]).bind λ i=>
  (bE 24 k [a.2]).bind λ j=>
  tA F b bP j i h g (ap (c+1)))) (some (.go (k,l,m,n)))
def Ky(F:Nat)(a:List al):Option (aN×Int):=
 (Kx F a).bind λ f=>
 cond (!decide (f=0)) (some ((⟨[],[],[],[],[]⟩:aN),f)) (cn (α:=(List (List Target))×(List (List (List UInt8)))×(List (List Field))×(List Int)) (tA F a F [] [] [] [] 0) λ((b,c,d,e):(List (List Target))×(List (List (List UInt8)))×(List (List Field))×(List Int))=>
 some ((⟨a,e,d,c,b⟩:aN),0))
def rc(a:bt):Nat->(List ((List UInt8)×Int))->Int->Option (Way (Int×bt) (List ((List UInt8)×Int)))
 |0,_,_=>none
 |bP+1,c,d=>
  cond (decide (d<(a.l.length:Int))) ((idx a.l d).bind λ b=>
  cond ((cB c b.Name).isSome) (some (.out (6,(⟨a.l,c,a.dC⟩:bt)))) (rc a bP (gP c b.Name d) (ap (d+1)))) (some (.go c))
def IP(F:Nat)(a:bt):Option (Int×bt):=
 cn (α:=List ((List UInt8)×Int)) (rc a F a.bZ 0) λ(b:List ((List UInt8)×Int))=>
 cond ((!((cB b [79,98,106,101,99,116]).isSome))||(!((cB b [69,114,114,111,114]).isSome))) (some (5,(⟨a.l,b,a.dC⟩:bt))) (some (0,(⟨a.l,b,a.dC⟩:bt)))
def zm(a:bt):Nat->Int->Option (Way (Int×bt) (Unit))
 |0,_=>none
 |bP+1,Cr=>
  cond (decide (Cr<(a.l.length:Int))) ((idx a.l Cr).bind λ b=>
  cond (!((decide (b.Name=[79,98,106,101,99,116]))==(decide (b.dg=[])))) (some (.out (4,(⟨a.l,a.bZ,a.dC⟩:bt)))) (zm a bP (ap (Cr+1)))) (some (.go ()))
def o6(a:bt):Nat->(List Int)->Int->Option (Way (Int×bt) (List Int))
 |0,_,_=>none
 |eX+1,c,d=>
  cond (decide (d<(a.l.length:Int))) (di (α:=List Int) ((idx a.l d).bind λ b=>
  di (α:=Int) (di (α:=Int) (cond (decide (b.dg=[])) (some (.go (-1))) (cond (!((cB a.bZ b.dg).isSome)) (some (.out (5,(⟨a.l,a.bZ,c⟩:bt)))) (some (.go ((cB a.bZ b.dg).getD 0))))) λ(e:Int)=>
  some (.go e)) λ(f:Int)=>
  (bE 8 c [f]).bind λ g=>
  some (.go g)) λ(h:List Int)=>
  o6 a eX h (ap (d+1))) (some (.go c))
def wD(b:bt)(c:List Int):Nat->Int->Int->Option (Int)
 |0,_,_=>none
 |n_+1,d,e=>
  cond (decide (e<(b.l.length:Int))) ((idx c d).bind λ a=>
  cond (decide (a<0)) (some a) (wD b c n_ a (ap (e+1)))) (some d)
def uy(F:Nat)(a:bt)(b:List Int):Nat->Int->Option (Way (Int×bt) (Unit))
 |0,_=>none
 |iy+1,c=>
  cond (decide (c<(a.l.length:Int))) (di (α:=Unit) (dP (α:=Int) (dP (α:=Int) (wD a b F c 0) λ(d:Int)=>
  some d) λ(e:Int)=>
  cond (decide (0<=e)) (some (.out (4,(⟨a.l,a.bZ,b⟩:bt)))) (some (.go ()))) λ(_:Unit)=>
  uy F a b iy (ap (c+1))) (some (.go ()))
def Q9(F:Nat)(a:bt):Option (Int×bt):=
 cn (α:=Unit) (zm a F 0) λ(_:Unit)=>
 cn (α:=List Int) (o6 a F a.dC 0) λ(b:List Int)=>
 cn (α:=Unit) (uy F a b F 0) λ(_:Unit)=>
 some (0,(⟨a.l,a.bZ,b⟩:bt))
def uA(b:bt):Nat->(List Int)->Int->Option (List Int)
 |0,_,_=>none
 |bP+1,c,a=>
  cond (decide (0<=a)) ((bE 8 c [a]).bind λ d=>
  (idx b.dC a).bind λ e=>
  uA b bP d e) (some c)
def uz(F:Nat)(a:bt)(b:Int):Option (List Int):=
 dP (α:=List Int) (uA a F [] b) λ(c:List Int)=>
 some c
def Nw(_:List Int):Option Unit:=some ()
def B2(b:bt):List Int->(List Field)->Option (List Field)
 |[],a=>some a
 |C'::c,a=>
  (idx b.l C').bind λ Dn=>
  (bE 40 a Dn.Fields).bind λ d=>
  B2 b c d
def wE(F:Nat)(a:bt)(c:Int):Option (List Field):=
 (uz F (⟨a.l,a.bZ,a.dC⟩:bt) c).bind λ b=>
 (Nw b).bind λ d=>
 dP (α:=List Field) (B2 a b.reverse []) λ(e:List Field)=>
 some e
def Q_(F:Nat)(a:bt):Option (Int):=
 (wE F (⟨a.l,a.bZ,a.dC⟩:bt) ((cB a.bZ [69,114,114,111,114]).getD 0)).bind λ d=>
 (idx a.l ((cB a.bZ [69,114,114,111,114]).getD 0)).bind λ b=>
 cond ((!decide (b.dg=[79,98,106,101,99,116]))||(decide ((d.length:Int)=0))) (some 4) ((idx d 0).bind λ c=>
 cond (!decide (c.Kind.Kind=1)) (some 4) (some 0))
def F5(a:Kind)(b:List (List UInt8)):Option (List (List UInt8)):=
 cond (!decide (a.al=[])) ((bE 16 b [a.al]).bind λ c=>
 some c) (some b)
def zp(b:al):Nat->(List (List UInt8))->Int->Option (List (List UInt8))
 |0,_,_=>none
 |eX+1,e,c=>
  cond (decide (c<(b.Fields.length:Int))) ((idx b.Fields c).bind λ a=>
  (F5 (⟨a.Kind.Kind,a.Kind.al⟩:Kind) e).bind λ d=>
  zp b eX d (ap (c+1))) (some e)
def zq(b:Method):Nat->(List (List UInt8))->Int->Option (List (List UInt8))
 |0,_,_=>none
 |n_+1,e,c=>
  cond (decide (c<(b.cD.length:Int))) ((idx b.cD c).bind λ a=>
  (F5 (⟨a.Kind,a.al⟩:Kind) e).bind λ d=>
  zq b n_ d (ap (c+1))) (some e)
def uE(a:Method):Nat->(List (List UInt8))->Int->Option (List (List UInt8))
 |0,_,_=>none
 |wx+1,e,b=>
  cond (decide (b<(a.cL.length:Int))) ((idx a.cL b).bind λ c=>
  (bE 16 e [c.al]).bind λ d=>
  uE a wx d (ap (b+1))) (some e)
def uD(F:Nat)(b:al):Nat->(List (List UInt8))->Int->Option (List (List UInt8))
 |0,_,_=>none
 |iy+1,h,c=>
  cond (decide (c<(b.bn.length:Int))) (dP (α:=List (List UInt8)) ((idx b.bn c).bind λ a=>
  dP (α:=List (List UInt8)) (zq a F h 0) λ(d:List (List UInt8))=>
  (F5 (⟨a.Returns.Kind,a.Returns.al⟩:Kind) d).bind λ e=>
  dP (α:=List (List UInt8)) (uE a F e 0) λ(f:List (List UInt8))=>
  some f) λ(g:List (List UInt8))=>
  uD F b iy g (ap (c+1))) (some h)
def zo(F:Nat)(a:bt):Nat->(List (List UInt8))->Int->Option (List (List UInt8))
 |0,_,_=>none
 |bP+1,f,b=>
  cond (decide (b<(a.l.length:Int))) (dP (α:=List (List UInt8)) ((idx a.l b).bind λ g=>
  dP (α:=List (List UInt8)) (zp g F f 0) λ(c:List (List UInt8))=>
  dP (α:=List (List UInt8)) (uD F g F c 0) λ(d:List (List UInt8))=>
  some d) λ(e:List (List UInt8))=>
  zo F a bP e (ap (b+1))) (some f)
def B9(d:bt)(a:List (List UInt8)):Nat->Int->Option (Way (Int) (Unit))
 |0,_=>none
 |BV+1,b=>
  cond (decide (b<(a.length:Int))) ((idx a b).bind λ c=>
  cond (!((cB d.bZ c).isSome)) (some (.out 5)) (B9 d a BV (ap (b+1)))) (some (.go ()))
def My(F:Nat)(a:bt):Option (Int):=
 dP (α:=List (List UInt8)) (zo F a F [] 0) λ(b:List (List UInt8))=>
 cn (α:=Unit) (B9 a b F 0) λ(_:Unit)=>
 some 0
def B_(a:List (List UInt8)):Nat->(List ((List UInt8)×Bool))->Int->Option (List ((List UInt8)×Bool))
 |0,_,_=>none
 |bP+1,d,b=>
  cond (decide (b<(a.length:Int))) ((idx a b).bind λ c=>
  B_ a bP (gP d c true) (ap (b+1))) (some d)
def IR(F:Nat)(b:List (List UInt8)):Option (Bool):=
 dP (α:=List ((List UInt8)×Bool)) (B_ b F [] 0) λ(a:List ((List UInt8)×Bool))=>
 some (decide ((a.length:Int)<(b.length:Int)))
def zn(a:List Field):Nat->(List (List UInt8))->Int->Option (List (List UInt8))
 |0,_,_=>none
 |eX+1,e,b=>
  cond (decide (b<(a.length:Int))) ((idx a b).bind λ c=>
  (bE 16 e [c.Name]).bind λ d=>
  zn a eX d (ap (b+1))) (some e)
def uC(a:al):Nat->(List (List UInt8))->Int->Option (List (List UInt8))
 |0,_,_=>none
 |iy+1,d,wN=>
  cond (decide (wN<(a.bn.length:Int))) ((idx a.bn wN).bind λ b=>
  (bE 16 d [b.Name]).bind λ c=>
  uC a iy c (ap (wN+1))) (some d)
def B6(F:Nat)(a:bt):Nat->Int->Option (Way (Int) (Unit))
 |0,_=>none
 |bP+1,b=>
  cond (decide (b<(a.l.length:Int))) (di (α:=Unit) ((idx a.l b).bind λ g=>
  (wE F (⟨a.l,a.bZ,a.dC⟩:bt) b).bind λ h=>
  dP (α:=List (List UInt8)) (zn h F [] 0) λ(c:List (List UInt8))=>
  dP (α:=List (List UInt8)) (uC g F [] 0) λ(d:List (List UInt8))=>
  (IR F c).bind λ e=>
  cond (e) (some (.out 6)) ((IR F d).bind λ f=>
  cond (f) (some (.out 6)) (some (.go ())))) λ(_:Unit)=>
  B6 F a bP (ap (b+1))) (some (.go ()))
def Mx(F:Nat)(a:bt):Option (Int):=
 cn (α:=Unit) (B6 F a F 0) λ(_:Unit)=>
 some 0
def Gv(b:List Kind)(c:List Kind):Nat->Int->Option (Way (Bool) (Unit))
 |0,_=>none
 |bP+1,a=>
  cond (decide (a<(b.length:Int))) ((idx b a).bind λ d=>
  (idx c a).bind λ e=>
  cond (!decide (d=e)) (some (.out false)) (Gv b c bP (ap (a+1)))) (some (.go ()))
def NC(F:Nat)(a:List Kind)(b:List Kind):Option (Bool):=
 cond (!decide ((a.length:Int)=(b.length:Int))) (some false) (cn (α:=Unit) (Gv a b F 0) λ(_:Unit)=>
 some true)
def Q8(F:Nat)(a:Method)(b:Method):Option (Bool):=
 cond ((!a.Static)&&(!b.Static)) ((NC F a.cD b.cD).bind λ c=>
 cond (c) (some (decide ((⟨a.Returns.Kind,a.Returns.al⟩:Kind)=(⟨b.Returns.Kind,b.Returns.al⟩:Kind)))) (some false)) (some false)
def uB(F:Nat)(a:Method)(c:al):Nat->Int->Option (Way (Int) (Unit))
 |0,_=>none
 |n_+1,d=>
  cond (decide (d<(c.bn.length:Int))) ((idx c.bn d).bind λ b=>
  cond (decide (a.Name=b.Name)) ((Q8 F (⟨a.Name,a.Static,a.cD,(⟨a.Returns.Kind,a.Returns.al⟩:Kind),a.iO,a.iL,a.Code,a.cL⟩:Method) (⟨b.Name,b.Static,b.cD,(⟨b.Returns.Kind,b.Returns.al⟩:Kind),b.iO,b.iL,b.Code,b.cL⟩:Method)).bind λ e=>
  cond (!e) (some (.out 4)) (uB F a c n_ (ap (d+1)))) (uB F a c n_ (ap (d+1)))) (some (.go ()))
def B5(F:Nat)(c:bt)(a:al)(d:Int):Nat->Int->Option (Way (Int) (Unit))
 |0,_=>none
 |iy+1,b=>
  cond (decide (b<(a.bn.length:Int))) (di (α:=Unit) ((idx a.bn b).bind λ e=>
  (idx c.l d).bind λ f=>
  di (α:=Unit) (uB F e f F 0) λ(_:Unit)=>
  some (.go ())) λ(_:Unit)=>
  B5 F c a d iy (ap (b+1))) (some (.go ()))
def B4(F:Nat)(c:bt)(d:al)(a:List Int):Nat->Int->Option (Way (Int) (Unit))
 |0,_=>none
 |eX+1,b=>
  cond (decide (b<(a.length:Int))) (di (α:=Unit) ((idx a b).bind λ e=>
  di (α:=Unit) (B5 F c d e F 0) λ(_:Unit)=>
  some (.go ())) λ(_:Unit)=>
  B4 F c d a eX (ap (b+1))) (some (.go ()))
def B3(F:Nat)(a:bt):Nat->Int->Option (Way (Int) (Unit))
 |0,_=>none
 |bP+1,c=>
  cond (decide (c<(a.l.length:Int))) (di (α:=Unit) ((idx a.l c).bind λ d=>
  (uz F (⟨a.l,a.bZ,a.dC⟩:bt) c).bind λ b=>
  (cut b 1 (b.length:Int)).bind λ e=>
  di (α:=Unit) (B4 F a d e F 0) λ(_:Unit)=>
  some (.go ())) λ(_:Unit)=>
  B3 F a bP (ap (c+1))) (some (.go ()))
def Mw(F:Nat)(a:bt):Option (Int):=
 cn (α:=Unit) (B3 F a F 0) λ(_:Unit)=>
 some 0
def aco(s_:List Field):Option (List Field):=
 (bE 40 ([]:List Field) s_).bind λ a=>
 some a
def acr(s_:List Method):Option (List Method):=
 (bE 128 ([]:List Method) s_).bind λ a=>
 some a
def acq(s_:List Kind):Option (List Kind):=
 (bE 24 ([]:List Kind) s_).bind λ a=>
 some a
def acp(s_:List Handler):Option (List Handler):=
 (bE 40 ([]:List Handler) s_).bind λ a=>
 some a
def wF:Nat->(List Method)->Int->Int->Option (List Method)
 |0,_,_,_=>none
 |eX+1,f,c,Gg=>
  cond (decide (Gg<c)) ((idx f Gg).bind λ d=>
  (acq d.cD).bind λ g=>
  (acp d.cL).bind λ h=>
  (idx f Gg).bind λ a=>
  (some (f.set (Gg).toNat (⟨a.Name,a.Static,g,(⟨a.Returns.Kind,a.Returns.al⟩:Kind),a.iO,a.iL,a.Code,a.cL⟩:Method))).bind λ e=>
  (idx e Gg).bind λ b=>
  (some (e.set (Gg).toNat (⟨b.Name,b.Static,b.cD,(⟨b.Returns.Kind,b.Returns.al⟩:Kind),b.iO,b.iL,b.Code,h⟩:Method))).bind λ i=>
  wF eX i c (ap (Gg+1))) (some f)
def uF(F:Nat)(c:List al):Nat->(List al)->Int->Option (List al)
 |0,_,_=>none
 |bP+1,i,d=>
  cond (decide (d<(c.length:Int))) (dP (α:=List al) ((idx c d).bind λ b=>
  (aco b.Fields).bind λ e=>
  (acr b.bn).bind λ a=>
  dP (α:=List Method) (wF F a (a.length:Int) 0) λ(f:List Method)=>
  (bE 80 i [(⟨b.Name,b.dg,e,f⟩:al)]).bind λ g=>
  some g) λ(h:List al)=>
  uF F c bP h (ap (d+1))) (some i)
def Mz(F:Nat)(b:List al):Option (List al):=
 dP (α:=List al) (uF F b F [] 0) λ(a:List al)=>
 some a
def CY(s_:List (List UInt8))(b:List UInt8):Nat->Int->Option (Way (Int) (Unit))
 |0,_=>none
 |bP+1,a=>
  cond (decide (a<(s_.length:Int))) ((idx s_ a).bind λ c=>
  cond (decide (b=c)) (some (.out a)) (CY s_ b bP (ap (a+1)))) (some (.go ()))
def NG(F:Nat)(s_:List (List UInt8))(a:List UInt8):Option (Int):=
 cn (α:=Unit) (CY s_ a F 0) λ(_:Unit)=>
 some (-1)
def B8(F:Nat)(d:Int)(e:al):Nat->(List (List UInt8))->(List Target)->Int->Option ((List (List UInt8))×(List Target))
 |0,_,_,_=>none
 |eX+1,b,c,a=>
  cond (decide (a<(e.bn.length:Int))) (dP (α:=(List (List UInt8))×(List Target)) ((idx e.bn a).bind λ g=>
  (NG F b g.Name).bind λ f=>
  cond (decide (0<=f)) ((idx c f).bind λ h=>
  (some (c.set (f).toNat (⟨d,a⟩:Target))).bind λ i=>
  some (b,i)) ((bE 16 b [g.Name]).bind λ j=>
  (bE 16 c [(⟨d,a⟩:Target)]).bind λ k=>
  some (j,k))) λ((l,m):(List (List UInt8))×(List Target))=>
  B8 F d e eX l m (ap (a+1))) (some (b,c))
def B7(F:Nat)(c:bt):List Int->(List (List UInt8))->(List Target)->Option ((List (List UInt8))×(List Target))
 |[],a,b=>some (a,b)
 |fv::d,a,b=>
  dP (α:=(List (List UInt8))×(List Target)) ((idx c.l fv).bind λ e=>
  dP (α:=(List (List UInt8))×(List Target)) (B8 F fv e F a b 0) λ((f,g):(List (List UInt8))×(List Target))=>
  some (f,g)) λ((h,i):(List (List UInt8))×(List Target))=>
  B7 F c d h i
def F4(F:Nat)(a:bt)(c:Int):Option ((List (List UInt8))×(List Target)):=
 (uz F (⟨a.l,a.bZ,a.dC⟩:bt) c).bind λ b=>
 (Nw b).bind λ f=>
 dP (α:=(List (List UInt8))×(List Target)) (B7 F a b.reverse [] []) λ((d,e):(List (List UInt8))×(List Target))=>
 some (d,e)
def qa(F:Nat)(d:List al)(e:Int×bt)(f:Int×bt):Nat->(List (List Target))->(List (List (List UInt8)))->(List (List Field))->Int->Option (Way (aN×Int) ((List (List Target))×(List (List (List UInt8)))×(List (List Field))))
 |0,_,_,_,_=>none
 |bP+1,k,l,m,b=>
  cond (decide (b<(d.length:Int))) ((F4 F (⟨d,e.2.bZ,f.2.dC⟩:bt) b).bind λ a=>
  (wE F (⟨d,e.2.bZ,f.2.dC⟩:bt) b).bind λ g=>
  (bE 24 m [g]).bind λ c=>
  (bE 24 l [a.1]).bind λ h=>
  (bE 24 k [a.2]).bind λ i=>
  (idx c b).bind λ j=>
  cond ((decide (12<(j.length:Int)))||(decide (16<(a.1.length:Int)))) (some (.out ((⟨[],[],[],[],[]⟩:aN),2))) (qa F d e f bP i h c (ap (b+1)))) (some (.go (k,l,m)))
def F3(F:Nat)(e:List al):Option (aN×Int):=
 (Mj F e).bind λ f=>
 cond (!decide (f=0)) (some ((⟨[],[],[],[],[]⟩:aN),f)) ((Mz F e).bind λ a=>
 (IP F (⟨a,[],[]⟩:bt)).bind λ b=>
 cond (!decide (b.1=0)) (some ((⟨[],[],[],[],[]⟩:aN),b.1)) ((Q9 F (⟨a,b.2.bZ,[]⟩:bt)).bind λ c=>
 cond (!decide (c.1=0)) (some ((⟨[],[],[],[],[]⟩:aN),c.1)) ((Q_ F (⟨a,b.2.bZ,c.2.dC⟩:bt)).bind λ g=>
 cond (!decide (g=0)) (some ((⟨[],[],[],[],[]⟩:aN),g)) ((My F (⟨a,b.2.bZ,c.2.dC⟩:bt)).bind λ h=>
 cond (!decide (h=0)) (some ((⟨[],[],[],[],[]⟩:aN),h)) ((Mx F (⟨a,b.2.bZ,c.2.dC⟩:bt)).bind λ i=>
 cond (!decide (i=0)) (some ((⟨[],[],[],[],[]⟩:aN),i)) ((Mw F (⟨a,b.2.bZ,c.2.dC⟩:bt)).bind λ d=>
 cond (!decide (d=0)) (some ((⟨[],[],[],[],[]⟩:aN),d)) (cn (α:=(List (List Target))×(List (List (List UInt8)))×(List (List Field))) (qa F a b c F [] [] [] 0) λ((j,k,l):(List (List Target))×(List (List (List UInt8)))×(List (List Field)))=>
 some ((⟨a,c.2.dC,l,k,j⟩:aN),0))))))))
def CT(b:List Int)(c:List Int):Nat->Int->Option (Way (Bool) (Unit))
 |0,_=>none
 |bP+1,a=>
  cond (decide (a<(b.length:Int))) ((idx b a).bind λ d=>
  (idx c a).bind λ e=>
  cond (!decide (d=e)) (some (.out false)) (CT b c bP (ap (a+1)))) (some (.go ()))
def NE(F:Nat)(a:List Int)(b:List Int):Option (Bool):=
 cond (!decide ((a.length:Int)=(b.length:Int))) (some false) (cn (α:=Unit) (CT a b F 0) λ(_:Unit)=>
 some true)
def CR(b:List Field)(c:List Field):Nat->Int->Option (Way (Bool) (Unit))
 |0,_=>none
 |bP+1,a=>
  cond (decide (a<(b.length:Int))) ((idx b a).bind λ d=>
  (idx c a).bind λ e=>
  cond (!decide (d=e)) (some (.out false)) (CR b c bP (ap (a+1)))) (some (.go ()))
def NB(F:Nat)(a:List Field)(b:List Field):Option (Bool):=
 cond (!decide ((a.length:Int)=(b.length:Int))) (some false) (cn (α:=Unit) (CR a b F 0) λ(_:Unit)=>
 some true)
def CO(F:Nat)(b:List (List Field))(c:List (List Field)):Nat->Int->Option (Way (Bool) (Unit))
 |0,_=>none
 |bP+1,a=>
  cond (decide (a<(b.length:Int))) ((idx b a).bind λ d=>
  (idx c a).bind λ e=>
  (NB F d e).bind λ f=>
  cond (!f) (some (.out false)) (CO F b c bP (ap (a+1)))) (some (.go ()))
def Ny(F:Nat)(a:List (List Field))(b:List (List Field)):Option (Bool):=
 cond (!decide ((a.length:Int)=(b.length:Int))) (some false) (cn (α:=Unit) (CO F a b F 0) λ(_:Unit)=>
 some true)
def CU(b:List (List UInt8))(c:List (List UInt8)):Nat->Int->Option (Way (Bool) (Unit))
 |0,_=>none
 |bP+1,a=>
  cond (decide (a<(b.length:Int))) ((idx b a).bind λ d=>
  (idx c a).bind λ e=>
  cond (!decide (d=e)) (some (.out false)) (CU b c bP (ap (a+1)))) (some (.go ()))
def NF(F:Nat)(a:List (List UInt8))(b:List (List UInt8)):Option (Bool):=
 cond (!decide ((a.length:Int)=(b.length:Int))) (some false) (cn (α:=Unit) (CU a b F 0) λ(_:Unit)=>
 some true)
def CQ(F:Nat)(b:List (List (List UInt8)))(c:List (List (List UInt8))):Nat->Int->Option (Way (Bool) (Unit))
 |0,_=>none
 |bP+1,a=>
  cond (decide (a<(b.length:Int))) ((idx b a).bind λ d=>
  (idx c a).bind λ e=>
  (NF F d e).bind λ f=>
  cond (!f) (some (.out false)) (CQ F b c bP (ap (a+1)))) (some (.go ()))
def NA(F:Nat)(a:List (List (List UInt8)))(b:List (List (List UInt8))):Option (Bool):=
 cond (!decide ((a.length:Int)=(b.length:Int))) (some false) (cn (α:=Unit) (CQ F a b F 0) λ(_:Unit)=>
 some true)
def CS(b:List Target)(c:List Target):Nat->Int->Option (Way (Bool) (Unit))
 |0,_=>none
 |bP+1,a=>
  cond (decide (a<(b.length:Int))) ((idx b a).bind λ d=>
  (idx c a).bind λ e=>
  cond (!decide (d=e)) (some (.out false)) (CS b c bP (ap (a+1)))) (some (.go ()))
def ND(F:Nat)(a:List Target)(b:List Target):Option (Bool):=
 cond (!decide ((a.length:Int)=(b.length:Int))) (some false) (cn (α:=Unit) (CS a b F 0) λ(_:Unit)=>
 some true)
def CP(F:Nat)(b:List (List Target))(c:List (List Target)):Nat->Int->Option (Way (Bool) (Unit))
 |0,_=>none
 |bP+1,a=>
  cond (decide (a<(b.length:Int))) ((idx b a).bind λ d=>
  (idx c a).bind λ e=>
  (ND F d e).bind λ f=>
  cond (!f) (some (.out false)) (CP F b c bP (ap (a+1)))) (some (.go ()))
def Nz(F:Nat)(a:List (List Target))(b:List (List Target)):Option (Bool):=
 cond (!decide ((a.length:Int)=(b.length:Int))) (some false) (cn (α:=Unit) (CP F a b F 0) λ(_:Unit)=>
 some true)
def IQ(F:Nat)(a:aN)(b:aN):Option (Bool):=
 (NE F a.aT b.aT).bind λ c=>
 cond (c) ((Ny F a.Fields b.Fields).bind λ e=>
 cond (e) ((NA F a.Names b.Names).bind λ f=>
 cond (f) ((Nz F a.aU b.aU).bind λ d=>
 some d) (some false)) (some false)) (some false)
def rb(F:Nat)(a:aN):Option (Int):=
 (F3 F a.aV).bind λ b=>
 cond (!decide (b.2=0)) (some 4) ((IQ F (⟨a.aV,a.aT,a.Fields,a.Names,a.aU⟩:aN) (⟨b.1.aV,b.1.aT,b.1.Fields,b.1.Names,b.1.aU⟩:aN)).bind λ c=>
 cond (!c) (some 4) (some 0))
def ae':Option (List al):=some [(⟨[79,98,106,101,99,116],[],[],[(⟨[109,97,105,110],true,[],(⟨0,[]⟩:Kind),2,0,[1,0,7,31,27],[]⟩:Method)]⟩:al),(⟨[69,114,114,111,114],[79,98,106,101,99,116],[(⟨[99,111,100,101],(⟨1,[]⟩:Kind)⟩:Field)],[]⟩:al)]
def xS(F:Nat)(a:aN):Option (Int):=
 (Ky F a.aV).bind λ b=>
 cond (!decide (b.2=0)) (some 4) ((HD F (⟨a.aV,a.aT,a.Fields,a.Names,a.aU⟩:aN) (⟨b.1.aV,b.1.aT,b.1.Fields,b.1.Names,b.1.aU⟩:aN)).bind λ c=>
 cond (!c) (some 4) (some 0))
def qX(a:Int)(b:Int)(c:Int):Option (Bool):=some ((decide (b<=a))&&(decide (a<=c)))
def ai0(a:Int)(b:Int):Option (aP×Int):=
 (qX a 3 2000).bind λ c=>
 cond (!c) (some ((⟨[],0,0,0,0,[],0⟩:aP),3)) ((qX b 3 2000).bind λ d=>
 cond (!d) (some ((⟨[],0,0,0,0,[],0⟩:aP),3)) ((ri (0 :Int) 8 (ap ((ap (1+a))+b))).bind λ e=>
 some ((⟨e,a,b,1,ap (a+1),[],1⟩:aP),0)))
def ui(s_:b4)(gp:Int):Option (Bool):=
 cond ((decide (gp=1))||(decide (gp=2))) (some true) ((qX gp 3 (ap ((ap (3+(s_.K.aV.length:Int)))-1))).bind λ a=>
 some a)
def uj(s_:b4)(gp:Int)(b:Int):Option (Bool):=
 (qX b 0 500).bind λ c=>
 cond (c) (cond (decide (gp<3)) (some true) ((idx s_.K.Fields (ap (gp-3))).bind λ a=>
 some (decide (b=(a.length:Int))))) (some false)
def sp(s_:b4)(gp:Int)(c:Int):Option (Bool):=
 cond (decide (gp=2)) (some true) (cond (decide (3<=gp)) ((idx s_.K.Fields (ap (gp-3))).bind λ a=>
 (idx a c).bind λ b=>
 some (!decide (b.Kind.Kind=1))) (some false))
def BC(s_:b4)(gp:Int)(a:Int):Option (Int):=
 (ui (⟨(⟨s_.K.aV,s_.K.aT,s_.K.Fields,s_.K.Names,s_.K.aU⟩:aN)⟩:b4) gp).bind λ b=>
 cond (!b) (some 7) ((uj (⟨(⟨s_.K.aV,s_.K.aT,s_.K.Fields,s_.K.Names,s_.K.aU⟩:aN)⟩:b4) gp a).bind λ c=>
 cond (!c) (some 3) (some 0))
def Iq(h_:aP):Option (Int):=
 (qX h_.ai 3 2000).bind λ b=>
 cond (!b) (some 3) ((qX h_.az 3 2000).bind λ c=>
 cond (!c) (some 3) (cond (!decide ((h_.wO.length:Int)=(ap ((ap (1+h_.ai))+h_.az)))) (some 1) ((qX h_.aI 1 (ap (h_.ai+1))).bind λ d=>
 cond (!d) (some 3) ((qX h_.aD (ap (h_.ai+1)) (ap ((ap (h_.ai+h_.az))+1))).bind λ a=>
 cond ((!a)||(decide (h_.Next<1))) (some 3) (some 0)))))
def Il(a:bp)(at_:Int):Option (Bool):=some ((decide (0<at_))&&(decide (at_<=a.H.ai)))
def Ik(a:bp)(at_:Int):Option (Bool):=some ((cB a.dO at_).getD false)
def qW(f:Int)(a:bp):Nat->(List Int)->(List (Int×Bool))->Int->Option (Way ((List Int)×Bool×bp) ((List Int)×(List (Int×Bool))))
 |0,_,_,_=>none
 |bP+1,j,d,b=>
  cond (decide (b<f)) (cond (decide (f<(ap (b+3)))) (some (.out ([],false,(⟨(⟨a.H.wO,a.H.ai,a.H.az,a.H.aI,a.H.aD,a.H.aJ,a.H.Next⟩:aP),(⟨(⟨a.S.K.aV,a.S.K.aT,a.S.K.Fields,a.S.K.Names,a.S.K.aU⟩:aN)⟩:b4),a.ai,a.az,d⟩:bp)))) ((idx a.H.wO b).bind λ e=>
  (idx a.H.wO (ap (b+1))).bind λ c=>
  (ui (⟨(⟨a.S.K.aV,a.S.K.aT,a.S.K.Fields,a.S.K.Names,a.S.K.aU⟩:aN)⟩:b4) e).bind λ g=>
  cond (!g) (some (.out ([],false,(⟨(⟨a.H.wO,a.H.ai,a.H.az,a.H.aI,a.H.aD,a.H.aJ,a.H.Next⟩:aP),(⟨(⟨a.S.K.aV,a.S.K.aT,a.S.K.Fields,a.S.K.Names,a.S.K.aU⟩:aN)⟩:b4),a.ai,a.az,d⟩:bp)))) ((uj (⟨(⟨a.S.K.aV,a.S.K.aT,a.S.K.Fields,a.S.K.Names,a.S.K.aU⟩:aN)⟩:b4) e c).bind λ h=>
  cond ((!h)||(decide (f<(ap ((ap (b+3))+c))))) (some (.out ([],false,(⟨(⟨a.H.wO,a.H.ai,a.H.az,a.H.aI,a.H.aD,a.H.aJ,a.H.Next⟩:aP),(⟨(⟨a.S.K.aV,a.S.K.aT,a.S.K.Fields,a.S.K.Names,a.S.K.aU⟩:aN)⟩:b4),a.ai,a.az,d⟩:bp)))) ((bE 8 j [b]).bind λ i=>
  qW f a bP i (gP d b true) (ap (b+(ap (3+c)))))))) (some (.go (j,d)))
def oV(F:Nat)(a:bp)(from_:Int)(d:Int):Option ((List Int)×Bool×bp):=
 cn (α:=(List Int)×(List (Int×Bool))) (qW d a F [] a.dO from_) λ((b,c):(List Int)×(List (Int×Bool)))=>
 some (b,true,(⟨(⟨a.H.wO,a.H.ai,a.H.az,a.H.aI,a.H.aD,a.H.aJ,a.H.Next⟩:aP),(⟨(⟨a.S.K.aV,a.S.K.aT,a.S.K.Fields,a.S.K.Names,a.S.K.aU⟩:aN)⟩:b4),a.ai,a.az,c⟩:bp))
def yE(at_:Int)(a:bp)(h:Int):Nat->(List Int)->Int->Option (List Int)
 |0,_,_=>none
 |bP+1,c,b=>
  cond (decide (b<h)) (dP (α:=List Int) ((idx a.H.wO at_).bind λ d=>
  (sp (⟨(⟨a.S.K.aV,a.S.K.aT,a.S.K.Fields,a.S.K.Names,a.S.K.aU⟩:aN)⟩:b4) d b).bind λ e=>
  cond (e) ((bE 8 c [ap ((ap (at_+3))+b)]).bind λ f=>
  some f) (some c)) λ(g:List Int)=>
  yE at_ a h bP g (ap (b+1))) (some c)
def sq(F:Nat)(b:bp)(at_:Int):Option (List Int):=
 (idx b.H.wO (ap (at_+1))).bind λ c=>
 dP (α:=List Int) (yE at_ b c F [] 0) λ(a:List Int)=>
 some a
def SN(a:Int):Option (List Int):=
 dP (α:=Unit) (cond (decide (a<0)) ((none:Option (Unit))) (some ())) λ(_:Unit)=>
 cond (decide (0<(ap (a-0)))) ((KJ (0 :Int) 8 (ap (a-0))).bind λ b=>
 some ([]:List Int)) (some [])
def zP(b:List (List Int)):Nat->Int->Int->Option (Int)
 |0,_,_=>none
 |bP+1,c,d=>
  cond (decide (d<(b.length:Int))) (dP (α:=Int) ((idx b d).bind λ a=>
  cond (decide ((ap (c+(a.length:Int)))<0)) ((none:Option (Int))) (some (ap (c+(a.length:Int))))) λ(e:Int)=>
  zP b bP e (ap (d+1))) (some c)
def zQ(a:List (List Int)):Nat->(List Int)->Int->Option (List Int)
 |0,_,_=>none
 |eX+1,e,b=>
  cond (decide (b<(a.length:Int))) ((idx a b).bind λ c=>
  (bE 8 e c).bind λ d=>
  zQ a eX d (ap (b+1))) (some e)
def JE(F:Nat)(d:List (List Int)):Option (List Int):=
 dP (α:=Int) (zP d F 0 0) λ(a:Int)=>
 (SN a).bind λ b=>
 dP (α:=List Int) (zQ d F b 0) λ(c:List Int)=>
 some c
def BD(F:Nat)(a:bp):Option (List Int):=
 (JE F [a.ai,a.az]).bind λ b=>
 some b
def cmp_isNaN_int(a:Int):Option (Bool):=some (!decide (a=a))
def cmp_Less_int(b:Int)(a:Int):Option (Bool):=
 (cmp_isNaN_int b).bind λ c=>
 cond (c) ((cmp_isNaN_int a).bind λ d=>
 some ((!d)||(decide (b<a)))) (some (decide (b<a)))
def SS(a:Int):Option (Bool):=some (!decide (a=a))
def w5(f:Int)(g:List Int):Nat->Int->Int->Option (Int)
 |0,_,_=>none
 |bP+1,a,wR=>
  cond (decide (a<wR)) (dP (α:=Int×Int) ((idx g (ap (zO (JQ (ap (a+wR))) 1))).bind λ b=>
  (cmp_Less_int b f).bind λ c=>
  cond (c) (some (ap ((ap (zO (JQ (ap (a+wR))) 1))+1),wR)) (some (a,ap (zO (JQ (ap (a+wR))) 1)))) λ((d,e):Int×Int)=>
  w5 f g bP d e) (some a)
def Nx(F:Nat)(b:List Int)(c:Int):Option (Int×Bool):=
 dP (α:=Int) (w5 c b F 0 (b.length:Int)) λ(a:Int)=>
 cond (decide (a<(b.length:Int))) ((idx b a).bind λ d=>
 cond (decide (d=c)) (some (a,true)) ((idx b a).bind λ e=>
 (SS e).bind λ f=>
 cond (f) ((SS c).bind λ g=>
 some (a,g)) (some (a,false)))) (some (a,false))
def yF(b:bp)(c:List Int):Nat->(List (Int×Bool))->Int->Option (Way (Int) (List (Int×Bool)))
 |0,_,_=>none
 |bP+1,f,d=>
  cond (decide (d<(c.length:Int))) ((idx c d).bind λ e=>
  (idx b.H.wO (ap (e+2))).bind λ a=>
  cond ((decide (a<1))||(decide (b.H.Next<=a))) (some (.out 3)) (yF b c bP (gP f a true) (ap (d+1)))) (some (.go f))
def Im(F:Nat)(a:bp):Option (Int):=
 (BD F (⟨(⟨a.H.wO,a.H.ai,a.H.az,a.H.aI,a.H.aD,a.H.aJ,a.H.Next⟩:aP),(⟨(⟨a.S.K.aV,a.S.K.aT,a.S.K.Fields,a.S.K.Names,a.S.K.aU⟩:aN)⟩:b4),a.ai,a.az,a.dO⟩:bp)).bind λ b=>
 cn (α:=List (Int×Bool)) (yF a b F [] 0) λ(c:List (Int×Bool))=>
 cond (decide ((c.length:Int)<(a.dO.length:Int))) (some 6) (some 0)
def XI(a:Int):Option (Bool):=some (!decide (a=0))
def CW(s_:List Int):Nat->Int->Option (Way (Int) (Unit))
 |0,_=>none
 |bP+1,a=>
  cond (decide (a<(s_.length:Int))) ((idx s_ a).bind λ b=>
  (XI b).bind λ c=>
  cond (c) (some (.out a)) (CW s_ bP (ap (a+1)))) (some (.go ()))
def SQ(F:Nat)(s_:List Int):Option (Int):=
 cn (α:=Unit) (CW s_ F 0) λ(_:Unit)=>
 some (-1)
def SL(F:Nat)(s_:List Int):Option (Bool):=
 (SQ F s_).bind λ a=>
 some (decide (0<=a))
def yH(b:bp)(c:List Int):Nat->Int->Option (Way (Int) (Unit))
 |0,_=>none
 |eX+1,d=>
  cond (decide (d<(c.length:Int))) ((idx c d).bind λ e=>
  (idx b.H.wO e).bind λ a=>
  cond (!decide (a=0)) (cond (!((cB b.dO a).getD false)) (some (.out 5)) (yH b c eX (ap (d+1)))) (yH b c eX (ap (d+1)))) (some (.go ()))
def BE(F:Nat)(a:bp)(b:List Int):Nat->Int->Option (Way (Int) (Unit))
 |0,_=>none
 |bP+1,Ct=>
  cond (decide (Ct<(b.length:Int))) (di (α:=Unit) ((idx b Ct).bind λ c=>
  (sq F (⟨(⟨a.H.wO,a.H.ai,a.H.az,a.H.aI,a.H.aD,a.H.aJ,a.H.Next⟩:aP),(⟨(⟨a.S.K.aV,a.S.K.aT,a.S.K.Fields,a.S.K.Names,a.S.K.aU⟩:aN)⟩:b4),a.ai,a.az,a.dO⟩:bp) c).bind λ d=>
  di (α:=Unit) (yH a d F 0) λ(_:Unit)=>
  some (.go ())) λ(_:Unit)=>
  BE F a b bP (ap (Ct+1))) (some (.go ()))
def Ip(F:Nat)(a:bp):Option (Int):=
 (BD F (⟨(⟨a.H.wO,a.H.ai,a.H.az,a.H.aI,a.H.aD,a.H.aJ,a.H.Next⟩:aP),(⟨(⟨a.S.K.aV,a.S.K.aT,a.S.K.Fields,a.S.K.Names,a.S.K.aU⟩:aN)⟩:b4),a.ai,a.az,a.dO⟩:bp)).bind λ g=>
 cn (α:=Unit) (BE F a g F 0) λ(_:Unit)=>
 (cut a.H.wO 0 1).bind λ b=>
 (cut a.H.wO a.H.aI (ap (a.H.ai+1))).bind λ c=>
 (cut a.H.wO a.H.aD (a.H.wO.length:Int)).bind λ d=>
 (JE F [b,c,d]).bind λ e=>
 (SL F e).bind λ f=>
 cond (f) (some 1) (some 0)
def Ql(Tb:Int)(a:bp):Option (Bool):=
 (idx a.H.wO Tb).bind λ b=>
 (Il (⟨(⟨a.H.wO,a.H.ai,a.H.az,a.H.aI,a.H.aD,a.H.aJ,a.H.Next⟩:aP),(⟨(⟨a.S.K.aV,a.S.K.aT,a.S.K.Fields,a.S.K.Names,a.S.K.aU⟩:aN)⟩:b4),a.ai,a.az,a.dO⟩:bp) b).bind λ c=>
 some c
def CV(s_:List Int)(a:bp):Nat->Int->Option (Way (Int) (Unit))
 |0,_=>none
 |bP+1,b=>
  cond (decide (b<(s_.length:Int))) ((idx s_ b).bind λ c=>
  (Ql c (⟨(⟨a.H.wO,a.H.ai,a.H.az,a.H.aI,a.H.aD,a.H.aJ,a.H.Next⟩:aP),(⟨(⟨a.S.K.aV,a.S.K.aT,a.S.K.Fields,a.S.K.Names,a.S.K.aU⟩:aN)⟩:b4),a.ai,a.az,a.dO⟩:bp)).bind λ d=>
  cond (d) (some (.out b)) (CV s_ a bP (ap (b+1)))) (some (.go ()))
def SP(F:Nat)(s_:List Int)(a:bp):Option (Int):=
 cn (α:=Unit) (CV s_ a F 0) λ(_:Unit)=>
 some (-1)
def SK(F:Nat)(s_:List Int)(a:bp):Option (Bool):=
 (SP F s_ (⟨(⟨a.H.wO,a.H.ai,a.H.az,a.H.aI,a.H.aD,a.H.aJ,a.H.Next⟩:aP),(⟨(⟨a.S.K.aV,a.S.K.aT,a.S.K.Fields,a.S.K.Names,a.S.K.aU⟩:aN)⟩:b4),a.ai,a.az,a.dO⟩:bp)).bind λ b=>
 some (decide (0<=b))
def wh(F:Nat)(a:bp):Nat->Int->Option (Way (Int) (Unit))
 |0,_=>none
 |bP+1,c=>
  cond (decide (c<(a.H.aJ.length:Int))) ((idx a.H.aJ c).bind λ b=>
  cond (decide (0<c)) ((idx a.H.aJ (ap (c-1))).bind λ d=>
  cond (decide (b<=d)) (some (.out 4)) (cond (!((cB a.dO b).getD false)) (some (.out 4)) ((Il (⟨(⟨a.H.wO,a.H.ai,a.H.az,a.H.aI,a.H.aD,a.H.aJ,a.H.Next⟩:aP),(⟨(⟨a.S.K.aV,a.S.K.aT,a.S.K.Fields,a.S.K.Names,a.S.K.aU⟩:aN)⟩:b4),a.ai,a.az,a.dO⟩:bp) b).bind λ e=>
  cond (e) (some (.out 4)) ((sq F (⟨(⟨a.H.wO,a.H.ai,a.H.az,a.H.aI,a.H.aD,a.H.aJ,a.H.Next⟩:aP),(⟨(⟨a.S.K.aV,a.S.K.aT,a.S.K.Fields,a.S.K.Names,a.S.K.aU⟩:aN)⟩:b4),a.ai,a.az,a.dO⟩:bp) b).bind λ f=>
  cond (decide ((f.length:Int)=0)) (some (.out 4)) (wh F a bP (ap (c+1))))))) (cond (!((cB a.dO b).getD false)) (some (.out 4)) ((Il (⟨(⟨a.H.wO,a.H.ai,a.H.az,a.H.aI,a.H.aD,a.H.aJ,a.H.Next⟩:aP),(⟨(⟨a.S.K.aV,a.S.K.aT,a.S.K.Fields,a.S.K.Names,a.S.K.aU⟩:aN)⟩:b4),a.ai,a.az,a.dO⟩:bp) b).bind λ g=>
  cond (g) (some (.out 4)) ((sq F (⟨(⟨a.H.wO,a.H.ai,a.H.az,a.H.aI,a.H.aD,a.H.aJ,a.H.Next⟩:aP),(⟨(⟨a.S.K.aV,a.S.K.aT,a.S.K.Fields,a.S.K.Names,a.S.K.aU⟩:aN)⟩:b4),a.ai,a.az,a.dO⟩:bp) b).bind λ h=>
  cond (decide ((h.length:Int)=0)) (some (.out 4)) (wh F a bP (ap (c+1))))))) (some (.go ()))
def yG(F:Nat)(a:bp):Nat->Int->Option (Way (Int) (Unit))
 |0,_=>none
 |eX+1,c=>
  cond (decide (c<(a.az.length:Int))) ((idx a.az c).bind λ b=>
  (Nx F a.H.aJ b).bind λ d=>
  cond (!d.2) ((sq F (⟨(⟨a.H.wO,a.H.ai,a.H.az,a.H.aI,a.H.aD,a.H.aJ,a.H.Next⟩:aP),(⟨(⟨a.S.K.aV,a.S.K.aT,a.S.K.Fields,a.S.K.Names,a.S.K.aU⟩:aN)⟩:b4),a.ai,a.az,a.dO⟩:bp) b).bind λ e=>
  (SK F e (⟨(⟨a.H.wO,a.H.ai,a.H.az,a.H.aI,a.H.aD,a.H.aJ,a.H.Next⟩:aP),(⟨(⟨a.S.K.aV,a.S.K.aT,a.S.K.Fields,a.S.K.Names,a.S.K.aU⟩:aN)⟩:b4),a.ai,a.az,a.dO⟩:bp)).bind λ f=>
  cond (f) (some (.out 4)) (yG F a eX (ap (c+1)))) (yG F a eX (ap (c+1)))) (some (.go ()))
def Io(F:Nat)(a:bp):Option (Int):=
 cn (α:=Unit) (wh F a F 0) λ(_:Unit)=>
 cn (α:=Unit) (yG F a F 0) λ(_:Unit)=>
 some 0
def wi(F:Nat)(h_:aP)(a:aN):Option ((Option bp)×Int):=
 (Iq (⟨h_.wO,h_.ai,h_.az,h_.aI,h_.aD,h_.aJ,h_.Next⟩:aP)).bind λ e=>
 cond (!decide (e=0)) (some ((none:Option bp),e)) ((oV F (⟨(⟨h_.wO,h_.ai,h_.az,h_.aI,h_.aD,h_.aJ,h_.Next⟩:aP),(⟨(⟨a.aV,a.aT,a.Fields,a.Names,a.aU⟩:aN)⟩:b4),[],[],[]⟩:bp) 1 h_.aI).bind λ c=>
 (oV F (⟨(⟨h_.wO,h_.ai,h_.az,h_.aI,h_.aD,h_.aJ,h_.Next⟩:aP),(⟨(⟨a.aV,a.aT,a.Fields,a.Names,a.aU⟩:aN)⟩:b4),[],[],c.2.2.dO⟩:bp) (ap (h_.ai+1)) h_.aD).bind λ b=>
 cond ((!c.2.1)||(!b.2.1)) (some ((none:Option bp),1)) ((Im F (⟨(⟨h_.wO,h_.ai,h_.az,h_.aI,h_.aD,h_.aJ,h_.Next⟩:aP),(⟨(⟨a.aV,a.aT,a.Fields,a.Names,a.aU⟩:aN)⟩:b4),c.1,b.1,b.2.2.dO⟩:bp)).bind λ d=>
 cond (!decide (d=0)) (some ((none:Option bp),d)) ((Ip F (⟨(⟨h_.wO,h_.ai,h_.az,h_.aI,h_.aD,h_.aJ,h_.Next⟩:aP),(⟨(⟨a.aV,a.aT,a.Fields,a.Names,a.aU⟩:aN)⟩:b4),c.1,b.1,b.2.2.dO⟩:bp)).bind λ f=>
 cond (!decide (f=0)) (some ((none:Option bp),f)) ((Io F (⟨(⟨h_.wO,h_.ai,h_.az,h_.aI,h_.aD,h_.aJ,h_.Next⟩:aP),(⟨(⟨a.aV,a.aT,a.Fields,a.Names,a.aU⟩:aN)⟩:b4),c.1,b.1,b.2.2.dO⟩:bp)).bind λ g=>
 cond (!decide (g=0)) (some ((none:Option bp),g)) (some ((some (⟨(⟨h_.wO,h_.ai,h_.az,h_.aI,h_.aD,h_.aJ,h_.Next⟩:aP),(⟨(⟨a.aV,a.aT,a.Fields,a.Names,a.aU⟩:aN)⟩:b4),c.1,b.1,b.2.2.dO⟩:bp)),0))))))
def mj(F:Nat)(h_:aP)(a:aN):Option ((Option bp)×Int):=
 (rb F (⟨a.aV,a.aT,a.Fields,a.Names,a.aU⟩:aN)).bind λ b=>
 cond (!decide (b=0)) (some ((none:Option bp),b)) ((wi F (⟨h_.wO,h_.ai,h_.az,h_.aI,h_.aD,h_.aJ,h_.Next⟩:aP) (⟨a.aV,a.aT,a.Fields,a.Names,a.aU⟩:aN)).bind λ c=>
 some (c.1,c.2))
def SJ(s_:List Int):Option (List Int):=
 (bE 8 ([]:List Int) s_).bind λ a=>
 some a
def nh(h_:aP):Option (aP):=
 (SJ h_.wO).bind λ a=>
 (SJ h_.aJ).bind λ b=>
 some (⟨a,h_.ai,h_.az,h_.aI,h_.aD,b,h_.Next⟩:aP)
def qV(h_:aP)(gp:Int)(a:Int)(h:Bool):Option (Int×Bool×aP):=
 cond (h) (cond (decide ((ap ((ap ((ap (h_.ai+h_.az))+1))-h_.aD))<(ap (3+a)))) (some (0,false,(⟨h_.wO,h_.ai,h_.az,h_.aI,h_.aD,h_.aJ,h_.Next⟩:aP))) ((idx h_.wO h_.aD).bind λ i=>
 (some (h_.wO.set (h_.aD).toNat gp)).bind λ b=>
 (idx b (ap (h_.aD+1))).bind λ n=>
 (some (b.set (ap (h_.aD+1)).toNat a)).bind λ c=>
 (idx c (ap (h_.aD+2))).bind λ j=>
 (some (c.set (ap (h_.aD+2)).toNat h_.Next)).bind λ f=>
 some (h_.aD,true,(⟨f,h_.ai,h_.az,h_.aI,ap (h_.aD+(ap (3+a))),h_.aJ,ap (h_.Next+1)⟩:aP)))) (cond (decide ((ap ((ap (h_.ai+1))-h_.aI))<(ap (3+a)))) (some (0,false,(⟨h_.wO,h_.ai,h_.az,h_.aI,h_.aD,h_.aJ,h_.Next⟩:aP))) ((idx h_.wO h_.aI).bind λ k=>
 (some (h_.wO.set (h_.aI).toNat gp)).bind λ d=>
 (idx d (ap (h_.aI+1))).bind λ l=>
 (some (d.set (ap (h_.aI+1)).toNat a)).bind λ e=>
 (idx e (ap (h_.aI+2))).bind λ m=>
 (some (e.set (ap (h_.aI+2)).toNat h_.Next)).bind λ g=>
 some (h_.aI,true,(⟨g,h_.ai,h_.az,ap (h_.aI+(ap (3+a))),h_.aD,h_.aJ,ap (h_.Next+1)⟩:aP))))
def aiZ(F:Nat)(h_:aP)(c:aN)(gp:Int)(h:Int)(i:Bool):Option (aP×Int×Int):=
 (mj F (⟨h_.wO,h_.ai,h_.az,h_.aI,h_.aD,h_.aJ,h_.Next⟩:aP) (⟨c.aV,c.aT,c.Fields,c.Names,c.aU⟩:aN)).bind λ f=>
 dP (α:=Int) (cond (decide (f.2=0)) ((f.1).bind λ d=>
 (BC (⟨(⟨d.S.K.aV,d.S.K.aT,d.S.K.Fields,d.S.K.Names,d.S.K.aU⟩:aN)⟩:b4) gp h).bind λ g=>
 some g) (some f.2)) λ(e:Int)=>
 cond (!decide (e=0)) (some ((⟨[],0,0,0,0,[],0⟩:aP),0,e)) ((nh (⟨h_.wO,h_.ai,h_.az,h_.aI,h_.aD,h_.aJ,h_.Next⟩:aP)).bind λ a=>
 (qV (⟨a.wO,a.ai,a.az,a.aI,a.aD,a.aJ,a.Next⟩:aP) gp h i).bind λ b=>
 cond (!b.2.1) (some ((⟨[],0,0,0,0,[],0⟩:aP),0,8)) (some ((⟨b.2.2.wO,a.ai,a.az,b.2.2.aI,b.2.2.aD,a.aJ,b.2.2.Next⟩:aP),b.1,0)))
def xW(b:List Int)(c:List Int):Nat->Int->Option (Way (Bool) (Unit))
 |0,_=>none
 |bP+1,a=>
  cond (decide (a<(b.length:Int))) ((idx b a).bind λ d=>
  (idx c a).bind λ e=>
  cond (!decide (d=e)) (some (.out false)) (xW b c bP (ap (a+1)))) (some (.go ()))
def ka(F:Nat)(a:List Int)(b:List Int):Option (Bool):=
 cond (!decide ((a.length:Int)=(b.length:Int))) (some false) (cn (α:=Unit) (xW a b F 0) λ(_:Unit)=>
 some true)
def Em(F:Nat)(a:aP)(b:aP):Option (Bool):=
 (ka F a.wO b.wO).bind λ c=>
 cond ((((c&&(decide (a.ai=b.ai)))&&(decide (a.az=b.az)))&&(decide (a.aI=b.aI)))&&(decide (a.aD=b.aD))) ((ka F a.aJ b.aJ).bind λ d=>
 some (d&&(decide (a.Next=b.Next)))) (some false)
def ma(F:Nat)(h_:aP)(e_:Int)(Tb:Int)(a:aP):Option (Bool):=
 dP (α:=(List Int)×Int×Int×Int×Int×(List Int)×Int) (cond (!decide (Tb=0)) (some ([],0,0,0,0,[],0)) (some (a.wO,a.ai,a.az,a.aI,a.aD,a.aJ,a.Next))) λ((kn,b,c,d,e,f,g):(List Int)×Int×Int×Int×Int×(List Int)×Int)=>
 cond (decide (e_=Tb)) ((Em F (⟨h_.wO,h_.ai,h_.az,h_.aI,h_.aD,h_.aJ,h_.Next⟩:aP) (⟨kn,b,c,d,e,f,g⟩:aP)).bind λ h=>
 some h) (some false)
def D'(a:aN)(gp:Int):Option (Bool):=some ((decide (1<=gp))&&(decide (gp<(ap (3+(a.aV.length:Int))))))
def xT(c:aN)(gp:Int)(b:Int):Option (Bool):=
 (gL b 0 500).bind λ d=>
 cond (d) (cond (decide (gp<3)) (some true) ((idx c.Fields (ap (gp-3))).bind λ a=>
 some (decide (b=(a.length:Int))))) (some false)
def vK(c:aN)(gp:Int)(d:Int):Option (Bool):=
 cond (decide (gp=2)) (some true) (cond (decide (3<=gp)) ((idx c.Fields (ap (gp-3))).bind λ a=>
 (idx a d).bind λ b=>
 some (!decide (b.Kind.Kind=1))) (some false))
def AR(h_:aP)(a:aN)(d:Int):Nat->(List Int)->Int->Option (Way ((List Int)×Bool) ((List Int)×Int))
 |0,_,_=>none
 |bP+1,c,b=>
  cond (decide (b<d)) (cond (decide (d<(ap (b+3)))) (some (.out ([],false))) ((idx h_.wO b).bind λ e=>
  (D' (⟨a.aV,a.aT,a.Fields,a.Names,a.aU⟩:aN) e).bind λ f=>
  cond (!f) (some (.out ([],false))) ((idx h_.wO b).bind λ g=>
  (idx h_.wO (ap (b+1))).bind λ h=>
  (xT (⟨a.aV,a.aT,a.Fields,a.Names,a.aU⟩:aN) g h).bind λ i=>
  cond (!i) (some (.out ([],false))) ((bE 8 c [b]).bind λ j=>
  (idx h_.wO (ap (b+1))).bind λ k=>
  AR h_ a d bP j (ap (b+(ap (3+k)))))))) (some (.go (c,b)))
def tC(F:Nat)(h_:aP)(d:aN)(from_:Int)(c:Int):Option ((List Int)×Bool):=
 cn (α:=(List Int)×Int) (AR h_ d c F [] from_) λ((a,b):(List Int)×Int)=>
 some (a,decide (b=c))
def D9(a:List Int)(c:Int):Nat->Int->Option (Way (Bool) (Unit))
 |0,_=>none
 |bP+1,b=>
  cond (decide (b<(a.length:Int))) ((idx a b).bind λ d=>
  cond (decide (d=c)) (some (.out true)) (D9 a c bP (ap (b+1)))) (some (.go ()))
def kU(F:Nat)(a:List Int)(b:Int):Option (Bool):=
 cn (α:=Unit) (D9 a b F 0) λ(_:Unit)=>
 some false
def xU(at_:Int)(h_:aP)(a:aN):Nat->(List Int)->Int->Option (List Int)
 |0,_,_=>none
 |bP+1,c,b=>
  (idx h_.wO (ap (at_+1))).bind λ d=>
  cond (decide (b<d)) (dP (α:=List Int) ((idx h_.wO at_).bind λ e=>
  (vK (⟨a.aV,a.aT,a.Fields,a.Names,a.aU⟩:aN) e b).bind λ f=>
  cond (f) ((bE 8 c [ap ((ap (at_+3))+b)]).bind λ g=>
  some g) (some c)) λ(h:List Int)=>
  xU at_ h_ a bP h (ap (b+1))) (some c)
def qJ(F:Nat)(h_:aP)(b:aN)(at_:Int):Option (List Int):=
 dP (α:=List Int) (xU at_ h_ b F [] 0) λ(a:List Int)=>
 some a
def qK(F:Nat)(h_:aP)(a:aN):Option ((List Int)×(List Int)×Bool):=
 (tC F (⟨h_.wO,h_.ai,h_.az,h_.aI,h_.aD,h_.aJ,h_.Next⟩:aP) (⟨a.aV,a.aT,a.Fields,a.Names,a.aU⟩:aN) 1 h_.aI).bind λ b=>
 (tC F (⟨h_.wO,h_.ai,h_.az,h_.aI,h_.aD,h_.aJ,h_.Next⟩:aP) (⟨a.aV,a.aT,a.Fields,a.Names,a.aU⟩:aN) (ap (h_.ai+1)) h_.aD).bind λ c=>
 some (b.1,c.1,b.2&&c.2)
def DK(h_:aP)(a:List Int):Nat->Int->Option (Way (Int) (Unit))
 |0,_=>none
 |bP+1,b=>
  cond (decide (b<(a.length:Int))) ((idx a b).bind λ c=>
  (idx h_.wO (ap (c+2))).bind λ e=>
  (gL e 1 (ap (h_.Next-1))).bind λ d=>
  cond (!d) (some (.out 3)) (DK h_ a bP (ap (b+1)))) (some (.go ()))
def DL(h_:aP)(a:List Int)(b:Int):Nat->Int->Option (Way (Int) (Unit))
 |0,_=>none
 |iy+1,c=>
  cond (decide (c<b)) ((idx a b).bind λ d=>
  (idx h_.wO (ap (d+2))).bind λ e=>
  (idx a c).bind λ f=>
  (idx h_.wO (ap (f+2))).bind λ g=>
  cond (decide (e=g)) (some (.out 6)) (DL h_ a b iy (ap (c+1)))) (some (.go ()))
def AH(F:Nat)(h_:aP)(a:List Int):Nat->Int->Option (Way (Int) (Unit))
 |0,_=>none
 |eX+1,b=>
  cond (decide (b<(a.length:Int))) (di (α:=Unit) (di (α:=Unit) (DL h_ a b F 0) λ(_:Unit)=>
  some (.go ())) λ(_:Unit)=>
  AH F h_ a eX (ap (b+1))) (some (.go ()))
def AI(F:Nat)(h_:aP)(c:List Int)(a:List Int):Nat->Int->Option (Way (Int) (Unit))
 |0,_=>none
 |wx+1,b=>
  cond (decide (b<(a.length:Int))) ((idx a b).bind λ d=>
  (idx h_.wO d).bind λ e=>
  cond (!decide (e=0)) ((idx a b).bind λ f=>
  (idx h_.wO f).bind λ g=>
  (kU F c g).bind λ h=>
  cond (!h) (some (.out 5)) (AI F h_ c a wx (ap (b+1)))) (AI F h_ c a wx (ap (b+1)))) (some (.go ()))
def DM(F:Nat)(h_:aP)(a:aN)(b:List Int):Nat->Int->Option (Way (Int) (Unit))
 |0,_=>none
 |n_+1,c=>
  cond (decide (c<(b.length:Int))) (di (α:=Unit) ((idx b c).bind λ d=>
  (qJ F (⟨h_.wO,h_.ai,h_.az,h_.aI,h_.aD,h_.aJ,h_.Next⟩:aP) (⟨a.aV,a.aT,a.Fields,a.Names,a.aU⟩:aN) d).bind λ e=>
  di (α:=Unit) (AI F h_ b e F 0) λ(_:Unit)=>
  some (.go ())) λ(_:Unit)=>
  DM F h_ a b n_ (ap (c+1))) (some (.go ()))
def xQ(h_:aP):Nat->Int->Option (Way (Int) (Unit))
 |0,_=>none
 |BV+1,a=>
  cond (decide (a<(h_.wO.length:Int))) ((idx h_.wO a).bind λ b=>
  cond (!decide (b=0)) (cond (decide (a=0)) (some (.out 1)) ((gL a h_.aI h_.ai).bind λ c=>
  cond (c||(decide (h_.aD<=a))) (some (.out 1)) (xQ h_ BV (ap (a+1))))) (xQ h_ BV (ap (a+1)))) (some (.go ()))
def r2(F:Nat)(h_:aP)(a:aN)(c:(List Int)×(List Int)×Bool):Nat->Int->Option (Way (Int) (Unit))
 |0,_=>none
 |QQ+1,b=>
  cond (decide (b<(h_.aJ.length:Int))) (cond (decide (0<b)) ((idx h_.aJ b).bind λ d=>
  (idx h_.aJ (ap (b-1))).bind λ e=>
  cond (decide (d<=e)) (some (.out 4)) ((idx h_.aJ b).bind λ f=>
  (kU F c.2.1 f).bind λ g=>
  cond (!g) (some (.out 4)) ((idx h_.aJ b).bind λ h=>
  (qJ F (⟨h_.wO,h_.ai,h_.az,h_.aI,h_.aD,h_.aJ,h_.Next⟩:aP) (⟨a.aV,a.aT,a.Fields,a.Names,a.aU⟩:aN) h).bind λ i=>
  cond (decide ((i.length:Int)=0)) (some (.out 4)) (r2 F h_ a c QQ (ap (b+1)))))) ((idx h_.aJ b).bind λ j=>
  (kU F c.2.1 j).bind λ k=>
  cond (!k) (some (.out 4)) ((idx h_.aJ b).bind λ l=>
  (qJ F (⟨h_.wO,h_.ai,h_.az,h_.aI,h_.aD,h_.aJ,h_.Next⟩:aP) (⟨a.aV,a.aT,a.Fields,a.Names,a.aU⟩:aN) l).bind λ m=>
  cond (decide ((m.length:Int)=0)) (some (.out 4)) (r2 F h_ a c QQ (ap (b+1)))))) (some (.go ()))
def tz(F:Nat)(h_:aP)(c:(List Int)×(List Int)×Bool)(d:Int)(a:List Int):Nat->Int->Option (Way (Int) (Unit))
 |0,_=>none
 |QR+1,b=>
  cond (decide (b<(a.length:Int))) ((idx a b).bind λ e=>
  (idx h_.wO e).bind λ f=>
  (gL f 1 h_.ai).bind λ g=>
  cond (g) ((idx c.2.1 d).bind λ h=>
  (kU F h_.aJ h).bind λ i=>
  cond (!i) (some (.out 4)) (tz F h_ c d a QR (ap (b+1)))) (tz F h_ c d a QR (ap (b+1)))) (some (.go ()))
def vG(F:Nat)(h_:aP)(a:aN)(b:(List Int)×(List Int)×Bool):Nat->Int->Option (Way (Int) (Unit))
 |0,_=>none
 |Y5+1,c=>
  cond (decide (c<(b.2.1.length:Int))) (di (α:=Unit) ((idx b.2.1 c).bind λ d=>
  (qJ F (⟨h_.wO,h_.ai,h_.az,h_.aI,h_.aD,h_.aJ,h_.Next⟩:aP) (⟨a.aV,a.aT,a.Fields,a.Names,a.aU⟩:aN) d).bind λ e=>
  di (α:=Unit) (tz F h_ b c e F 0) λ(_:Unit)=>
  some (.go ())) λ(_:Unit)=>
  vG F h_ a b Y5 (ap (c+1))) (some (.go ()))
def Hz(F:Nat)(h_:aP)(a:aN):Option (Int):=
 (gL h_.ai 3 2000).bind λ e=>
 cond (!e) (some 3) ((gL h_.az 3 2000).bind λ f=>
 cond (!f) (some 3) (cond (!decide ((h_.wO.length:Int)=(ap ((ap (1+h_.ai))+h_.az)))) (some 1) ((gL h_.aI 1 (ap (h_.ai+1))).bind λ g=>
 cond (!g) (some 3) ((gL h_.aD (ap (h_.ai+1)) (ap ((ap (h_.ai+h_.az))+1))).bind λ h=>
 cond ((!h)||(decide (h_.Next<1))) (some 3) ((qK F (⟨h_.wO,h_.ai,h_.az,h_.aI,h_.aD,h_.aJ,h_.Next⟩:aP) (⟨a.aV,a.aT,a.Fields,a.Names,a.aU⟩:aN)).bind λ b=>
 cond (!b.2.2) (some 1) ((bE 8 ([]:List Int) b.1).bind λ c=>
 (bE 8 c b.2.1).bind λ d=>
 cn (α:=Unit) (DK h_ d F 0) λ(_:Unit)=>
 cn (α:=Unit) (AH F h_ d F 0) λ(_:Unit)=>
 cn (α:=Unit) (DM F h_ a d F 0) λ(_:Unit)=>
 cn (α:=Unit) (xQ h_ F 0) λ(_:Unit)=>
 cn (α:=Unit) (r2 F h_ a b F 0) λ(_:Unit)=>
 cn (α:=Unit) (vG F h_ a b F 0) λ(_:Unit)=>
 some 0))))))
def r5(F:Nat)(h_:aP)(a:aN):Option (Int):=
 (xS F (⟨a.aV,a.aT,a.Fields,a.Names,a.aU⟩:aN)).bind λ b=>
 cond (decide (b=0)) ((Hz F (⟨h_.wO,h_.ai,h_.az,h_.aI,h_.aD,h_.aJ,h_.Next⟩:aP) (⟨a.aV,a.aT,a.Fields,a.Names,a.aU⟩:aN)).bind λ c=>
 some c) (some b)
def vL(h_:aP):Option (aP):=
 (bE 8 ([]:List Int) h_.wO).bind λ a=>
 (bE 8 ([]:List Int) h_.aJ).bind λ kn=>
 some (⟨a,h_.ai,h_.az,h_.aI,h_.aD,kn,h_.Next⟩:aP)
def HA(a:aN)(gp:Int)(b:Int):Option (Int):=
 (D' (⟨a.aV,a.aT,a.Fields,a.Names,a.aU⟩:aN) gp).bind λ c=>
 cond (!c) (some 7) ((xT (⟨a.aV,a.aT,a.Fields,a.Names,a.aU⟩:aN) gp b).bind λ d=>
 cond (!d) (some 3) (some 0))
def pI(h_:aP)(gp:Int)(e:Int)(i:Bool):Option (aP×Int×Bool):=
 dP (α:=Int×Int) (cond (i) (some (h_.aD,ap ((ap (h_.ai+h_.az))+1))) (some (h_.aI,ap (h_.ai+1)))) λ((b,f):Int×Int)=>
 cond (decide (f<(ap ((ap (b+3))+e)))) (some ((⟨h_.wO,h_.ai,h_.az,h_.aI,h_.aD,h_.aJ,h_.Next⟩:aP),0,false)) ((vL (⟨h_.wO,h_.ai,h_.az,h_.aI,h_.aD,h_.aJ,h_.Next⟩:aP)).bind λ a=>
 (idx a.wO b).bind λ m=>
 (some (a.wO.set (b).toNat gp)).bind λ c=>
 (idx c (ap (b+1))).bind λ j=>
 (some (c.set (ap (b+1)).toNat e)).bind λ d=>
 (idx d (ap (b+2))).bind λ k=>
 (some (d.set (ap (b+2)).toNat a.Next)).bind λ l=>
 dP (α:=Int×Int) (cond (i) (some (a.aI,ap (a.aD+(ap (3+e))))) (some (ap (a.aI+(ap (3+e))),a.aD))) λ((g,h):Int×Int)=>
 some ((⟨l,a.ai,a.az,g,h,a.aJ,ap (a.Next+1)⟩:aP),b,true))
def aey(h_:aP):Option (Int):=some (ap ((ap ((ap ((ap (h_.ai+h_.az))+1))-h_.aD))- (ap (h_.aI-1))))
def arp(F:Nat)(h_:aP)(a:aN):Option (Int×Int):=
 (mj F (⟨h_.wO,h_.ai,h_.az,h_.aI,h_.aD,h_.aJ,h_.Next⟩:aP) (⟨a.aV,a.aT,a.Fields,a.Names,a.aU⟩:aN)).bind λ b=>
 cond (!decide (b.2=0)) (some (0,b.2)) ((aey (⟨h_.wO,h_.ai,h_.az,h_.aI,h_.aD,h_.aJ,h_.Next⟩:aP)).bind λ c=>
 some (c,0))
def afg(h_:aP):Option (Int):=some (ap ((ap ((ap ((ap ((ap (h_.ai+h_.az))+1))-h_.aD))-h_.aI))+1))
def Ud(at_:Int)(a:bp):Option (Bool):=
 cond (!decide (at_=0)) ((Ik (⟨(⟨a.H.wO,a.H.ai,a.H.az,a.H.aI,a.H.aD,a.H.aJ,a.H.Next⟩:aP),(⟨(⟨a.S.K.aV,a.S.K.aT,a.S.K.Fields,a.S.K.Names,a.S.K.aU⟩:aN)⟩:b4),a.ai,a.az,a.dO⟩:bp) at_).bind λ b=>
 some (!b)) (some false)
def CX(s_:List Int)(a:bp):Nat->Int->Option (Way (Int) (Unit))
 |0,_=>none
 |bP+1,b=>
  cond (decide (b<(s_.length:Int))) ((idx s_ b).bind λ c=>
  (Ud c (⟨(⟨a.H.wO,a.H.ai,a.H.az,a.H.aI,a.H.aD,a.H.aJ,a.H.Next⟩:aP),(⟨(⟨a.S.K.aV,a.S.K.aT,a.S.K.Fields,a.S.K.Names,a.S.K.aU⟩:aN)⟩:b4),a.ai,a.az,a.dO⟩:bp)).bind λ d=>
  cond (d) (some (.out b)) (CX s_ a bP (ap (b+1)))) (some (.go ()))
def SR(F:Nat)(s_:List Int)(a:bp):Option (Int):=
 cn (α:=Unit) (CX s_ a F 0) λ(_:Unit)=>
 some (-1)
def SM(F:Nat)(s_:List Int)(a:bp):Option (Bool):=
 (SR F s_ (⟨(⟨a.H.wO,a.H.ai,a.H.az,a.H.aI,a.H.aD,a.H.aJ,a.H.Next⟩:aP),(⟨(⟨a.S.K.aV,a.S.K.aT,a.S.K.Fields,a.S.K.Names,a.S.K.aU⟩:aN)⟩:b4),a.ai,a.az,a.dO⟩:bp)).bind λ b=>
 some (decide (0<=b))
def Hd(F:Nat)(a:bp)(b:List Int):Option (Int):=
 cond (decide (1000<(b.length:Int))) (some 2) ((SM F b (⟨(⟨a.H.wO,a.H.ai,a.H.az,a.H.aI,a.H.aD,a.H.aJ,a.H.Next⟩:aP),(⟨(⟨a.S.K.aV,a.S.K.aT,a.S.K.Fields,a.S.K.Names,a.S.K.aU⟩:aN)⟩:b4),a.ai,a.az,a.dO⟩:bp)).bind λ c=>
 cond (c) (some 5) (some 0))
def r3(F:Nat)(a:List Int)(b:(List Int)×(List Int)×Bool):Nat->Int->Option (Way (Int) (Unit))
 |0,_=>none
 |bP+1,qc=>
  cond (decide (qc<(a.length:Int))) ((idx a qc).bind λ c=>
  cond (!decide (c=0)) ((idx a qc).bind λ d=>
  (kU F b.1 d).bind λ e=>
  cond (!e) ((idx a qc).bind λ f=>
  (kU F b.2.1 f).bind λ g=>
  cond (!g) (some (.out 5)) (r3 F a b bP (ap (qc+1)))) (r3 F a b bP (ap (qc+1)))) (r3 F a b bP (ap (qc+1)))) (some (.go ()))
def AM(F:Nat)(h_:aP)(a:aN)(b:List Int):Option (Int):=
 cond (decide (1000<(b.length:Int))) (some 2) ((qK F (⟨h_.wO,h_.ai,h_.az,h_.aI,h_.aD,h_.aJ,h_.Next⟩:aP) (⟨a.aV,a.aT,a.Fields,a.Names,a.aU⟩:aN)).bind λ c=>
 cn (α:=Unit) (r3 F b c F 0) λ(_:Unit)=>
 some 0)
def tx(F:Nat)(h_:aP)(a:aN)(c:List Int):Option (Int):=
 (r5 F (⟨h_.wO,h_.ai,h_.az,h_.aI,h_.aD,h_.aJ,h_.Next⟩:aP) (⟨a.aV,a.aT,a.Fields,a.Names,a.aU⟩:aN)).bind λ b=>
 cond (decide (b=0)) ((AM F (⟨h_.wO,h_.ai,h_.az,h_.aI,h_.aD,h_.aJ,h_.Next⟩:aP) (⟨a.aV,a.aT,a.Fields,a.Names,a.aU⟩:aN) c).bind λ d=>
 some d) (some b)
def afh(b:List Int)(c:Int):Nat->Int->Option (Way (Int) (Unit))
 |0,_=>none
 |bP+1,a=>
  cond (decide (a<(b.length:Int))) ((idx b a).bind λ d=>
  cond (decide (d=c)) (some (.out a)) (afh b c bP (ap (a+1)))) (some (.go ()))
def Eb(F:Nat)(a:List Int)(b:Int):Option (Int):=
 cn (α:=Unit) (afh a b F 0) λ(_:Unit)=>
 some (-1)
def D3(F:Nat)(at_:Int)(c:aP)(a:List Int):Option (List Int):=
 (gL at_ 1 c.ai).bind λ d=>
 cond (d) ((kU F a at_).bind λ e=>
 cond (!e) ((bE 8 a [at_]).bind λ b=>
 some b) (some a)) (some a)
def Ht(F:Nat)(at_:Int)(b:List Int):Option (Int×(List Int)):=
 cond (decide (at_=0)) (some (0,b)) ((Eb F b at_).bind λ c=>
 cond (decide (c<0)) ((bE 8 b [at_]).bind λ a=>
 some (ap ((ap ((a.length:Int)-1))+1),a)) (some (ap (c+1),b)))
def afa(F:Nat)(c:List Int):Nat->(List Int)->(List Int)->Int->Option ((List Int)×(List Int))
 |0,_,_,_=>none
 |bP+1,g,a,d=>
  cond (decide (d<(c.length:Int))) ((idx c d).bind λ e=>
  (Ht F e a).bind λ b=>
  (bE 8 g [b.1]).bind λ f=>
  afa F c bP f b.2 (ap (d+1))) (some (g,a))
def afb(F:Nat)(h_:aP)(a:aN)(e:Int):Nat->(List Int)->(List Int)->Int->Option ((List Int)×(List Int))
 |0,_,_,_=>none
 |iy+1,b,g,f=>
  (idx h_.wO (ap (e+1))).bind λ h=>
  cond (decide (f<h)) (dP (α:=(List Int)×(List Int)) ((idx h_.wO (ap ((ap (e+3))+f))).bind λ c=>
  dP (α:=(List Int)×Int) ((idx h_.wO e).bind λ i=>
  (vK (⟨a.aV,a.aT,a.Fields,a.Names,a.aU⟩:aN) i f).bind λ j=>
  cond (j) ((Ht F c g).bind λ d=>
  some (d.2,d.1)) (some (g,c))) λ((k,l):(List Int)×Int)=>
  (bE 8 b [l]).bind λ m=>
  some (m,k)) λ((n,o):(List Int)×(List Int))=>
  afb F h_ a e iy n o (ap (f+1))) (some (b,g))
def Hu(F:Nat)(h_:aP)(m:aN):Nat->(List Int)->(List Int)->Int->Option ((List Int)×(List Int))
 |0,_,_,_=>none
 |eX+1,a,b,d=>
  cond (decide (d<(b.length:Int))) (dP (α:=(List Int)×(List Int)) ((idx b d).bind λ c=>
  (idx h_.wO c).bind λ e=>
  (idx h_.wO (ap (c+1))).bind λ f=>
  (idx h_.wO (ap (c+2))).bind λ g=>
  (bE 8 a [e,f,g]).bind λ h=>
  dP (α:=(List Int)×(List Int)) (afb F h_ m c F h b 0) λ((i,j):(List Int)×(List Int))=>
  some (i,j)) λ((k,l):(List Int)×(List Int))=>
  Hu F h_ m eX k l (ap (d+1))) (some (a,b))
def Hs(F:Nat)(h_:aP)(d:aN)(e:List Int):Option (List Int):=
 dP (α:=(List Int)×(List Int)) (afa F e F [] [] 0) λ((a,b):(List Int)×(List Int))=>
 dP (α:=(List Int)×(List Int)) (Hu F h_ d F a b 0) λ((c,f):(List Int)×(List Int))=>
 some c
def UL(F:Nat)(h_:aP)(b:aN)(f:List Int)(a:aP)(c:List Int):Option (Bool):=
 (r5 F (⟨a.wO,a.ai,a.az,a.aI,a.aD,a.aJ,a.Next⟩:aP) (⟨b.aV,b.aT,b.Fields,b.Names,b.aU⟩:aN)).bind λ g=>
 cond (decide (g=0)) ((AM F (⟨a.wO,a.ai,a.az,a.aI,a.aD,a.aJ,a.Next⟩:aP) (⟨b.aV,b.aT,b.Fields,b.Names,b.aU⟩:aN) c).bind λ h=>
 cond ((decide (h=0))&&(decide ((f.length:Int)=(c.length:Int)))) ((Hs F (⟨h_.wO,h_.ai,h_.az,h_.aI,h_.aD,h_.aJ,h_.Next⟩:aP) (⟨b.aV,b.aT,b.Fields,b.Names,b.aU⟩:aN) f).bind λ d=>
 (Hs F (⟨a.wO,a.ai,a.az,a.aI,a.aD,a.aJ,a.Next⟩:aP) (⟨b.aV,b.aT,b.Fields,b.Names,b.aU⟩:aN) c).bind λ i=>
 (ka F d i).bind λ e=>
 some e) (some false)) (some false)
end I
namespace Go.Proofs.YteeliipnilghaaaGreat
open Go Go.RowKit aw I a7
@[reducible] def akb(F:Nat):iN bf:=⟨[.p (.B 0),lL],[.c 117 [.l 134,.M 1,.l 3],.m 9 3],[.p (.R 2)],[.c 117 [.l 134,.M 1,.l 3],.m 9 3,.r 136 false],List I.Field,
  λ d=>wE F ⟨d.2.1.1,d.2.2.1,d.2.1.2.2.1⟩ d.1.2.1,λ d r=>(((),()),((d.2.1.1,(),d.2.1.2.2.1,()),d.2.2.1,r,()))⟩
@[reducible] def akc(F:Nat):iN bf:=⟨[.p (.B 0),lL],[.c 117 [.l 134,.M 1,.l 3],.m 9 3],[.p (.R 2),.p (.R 3)],[.c 117 [.l 134,.M 1,.l 3],.m 9 3,.r 9 false,.r 166 false],List (List UInt8)×List I.Target,
  λ d=>F4 F ⟨d.2.1.1,d.2.2.1,d.2.1.2.2.1⟩ d.1.2.1,λ d r=>(((),(),()),((d.2.1.1,(),d.2.1.2.2.1,()),d.2.2.1,r.1,r.2,()))⟩
def OL(F:Nat):cX aE:=⟨(83,(akb F).run aE)::(82,(akc F).run aE)::ary.ce,[]⟩
open Go Go.RowKit aw
set_option maxHeartbeats 4000000
set_option maxRecDepth 20000
theorem af0{W:World}{X:List Nat}{F:Nat}{c:I.bt}{C:Int}{r:List Int}{l:Nat}{hb:jg}{m:Nat}{n:Nat}{g:jg}{j:Nat}{M0:List Nat}(d:bu W M0 X W [] [bA.kf l [.q hb m c.l,.map (some n),.q g j c.dC],cj I.lU hb m c.l,bA.map o3 (Value.int .i64) n c.bZ,cj (dE .i64) g j c.dC])(h:I.uz F c C=some r) :
 Calls Tryz.prog 114 [.dc l,.i C].toArray W (λ e w'=>∃q:Option Addr,∃s:Nat,∃t:List Value,e= .returned (.q q s r)/\bu W M0 X w' [a8.row 3 1 (.q q s r) r t] [bA.rows (dE .i64) t r]):=by
 refine enter Tryz.func114 rfl Tryz.ntmps114 rfl λ a b=>?_;rw[I.uz]at h;refine sg [] [] b λ a b=>sg [] [(5,.slice none 0 0)] b λ a b=>wp_seq_k λ K S=>?_;have d:=d.MO (α:=Int) 3 1;have d:=d.more (y:=bA.rows (dE .i64) [] []) rfl;obtain⟨D,h,E⟩:=I.fz h
 refine Pg (λ a w=>∃(u:jg)(v:Nat)(k:rZ)(B:qF),Fr ⟨20,[]⟩ [(5,.q u v k)] a/\bu W M0 X w [a8.row 3 1 (.q u v k) k B] [bA.rows (dE .i64) B k,bA.kf l [.q hb m c.l,.map (some n),.q g j c.dC],cj I.lU hb m c.l,bA.map o3 (Value.int .i64) n c.bZ,cj (dE .i64) g j c.dC]/\D=k) (λ K U=>?_) ?_
 ·clear E;refine Va (λ(P:Nat) a w=>∃(o:jg)(p:Nat)(i:rZ)(x:qF)(f:Int),Fr ⟨20,[]⟩ [(0,.dc l),(1,.i f),(5,.q o p i)] a/\bu W M0 X w [a8.row 3 1 (.q o p i) i x] [bA.rows (dE .i64) x i,bA.kf l [.q hb m c.l,.map (some n),.q g j c.dC],cj I.lU hb m c.l,bA.map o3 (Value.int .i64) n c.bZ,cj (dE .i64) g j c.dC]/\I.uA c P i f=some D) F ⟨none,0,[],[],C,b.cut,d,h⟩ ?_ ?_;rintro a w ⟨o,p,i,x,f,b,d,h⟩;exact absurd h (by simp[I.uA]);rintro P a w ⟨o,p,i,x,f,b,d,h⟩ K V;rw[I.uA]at h;refine wp_seq_k λ K Y=>sg [] [(7,.bool (decide (0<=f)))] b λ a b=>Pj (b.g rfl) h (λ G h=>?_) (λ G h=>?_);refine wp_skip<|Y _ _<|wp_seq_k λ K Z=>wp_block<|mY<|mZ 2 [] [(15,.q o p i),(16,.i f)] b λ a b=>alv (cs:=[.i f]) wn (Ha (vs:=[(0,.i f)]) Tryz.underlying22 Tryz.sizeOf3 Tryz.zeroValue3 rfl rfl rfl ⟨⟨(b.g rfl),rfl⟩,trivial⟩ (by kernel_rfl)) b d rfl rfl λ a aQb w _ b d=>?_;obtain⟨Q,H,h⟩:=I.fz h;refine Ns (T:=(dE .i64)) (ml:=[f]) 1 0 0 d rfl rfl rfl Tryz.underlying22 FJ rfl rfl H rfl rfl ⟨_,_,rfl,rfl,rfl⟩ wn rfl (b.g rfl) (b.g rfl) b rfl rfl λ a z A J w b d=>?_;refine mZ 1 [] [(5,.q z A Q)] b λ a b=>wpList_nil (Z _ _ ?_);refine mY<|qQ 5 [0,2] [(11,.q g j c.dC),(12,.i f)] [l,2] (gW (d.d 2 rfl).2.2 fp) b λ a b=>?_;obtain⟨R,L,h⟩:=I.fz h;obtain⟨M,N,_,rfl,O⟩:=Gu _ (d.d 5 rfl) L;refine gE wn (rT Tryz.underlying22 Tryz.sizeOf3 rfl (b.g rfl) (b.g rfl) M N) b rfl rfl λ a b=>qQ 2 [0,0] [(1,.i R)] [dD g,gB g+(f).toNat*1] (gW O fp) b λ a b=>wpList_nil ?_;exact V _ _ ⟨z,A,Q,J,R,b.cut,d.iX [0,2,3,4,5],h⟩;refine wp_exit<|vv (vv (J9 ?_));exact U _ _ ⟨o,p,i,x,b.cut,d,(os h)⟩
 rintro a w ⟨u,v,k,B,b,d,ax⟩;subst D;have h:=E;clear E;refine S _ _<|NH [] [(4,.q u v k)] b λ a b=>wp_ret ?_;obtain rfl:=oi h;refine CJ Tryz.results114 b rfl ?_;exact⟨u,v,B,rfl,d.rC [0] [0]⟩
theorem af1{W:World}{X:List Nat}{s_:List Int}{r:Unit}{d:jg}{f:Nat}{M0:List Nat}(i:bu W M0 X W [] [cj (dE .i64) d f s_])(h:I.Nw s_=some r) :
 Calls Tryz.prog 116 [.q d f s_].toArray W (λ e w'=>∃g:Nat,e= .returned (.func (.func 144) #[] #[.dc g])/\bu W M0 X w' [a8.cd g 22 [.q d f s_]] []):=by
 refine enter Tryz.func116 rfl Tryz.ntmps116 rfl λ a b=>?_;clear h;refine wp_seq_k λ K j=>mY<|wS (cs:=[.q d f s_]) wn (Ot rfl rfl (b.g rfl)) b i rfl rfl λ a c w _ b i=>mZ 1 [] [] b λ a b=>wpList_nil (j _ _ ?_);refine NH [] [(2,.func (.func 144) #[] #[.dc c])] b λ a b=>wp_ret<|CJ Tryz.results116 b rfl ?_;exact⟨c,rfl,i.rC [0] []⟩
theorem afY:aeX Tryz.prog 144:=by
 intro o f A c fU L w0 aj hy n;refine ayI (vs:=[.func (.yield L) #[] #[],.dc fU]) Tryz.func144 rfl Tryz.ntmps144 rfl (by rintro w ⟨⟨v,h⟩,_⟩;cases h) ?_;intro a b;obtain⟨W,M0,X,E,g⟩:=aj _ _ n;have i:f.length<=maxLen:=by
  obtain⟨ck,J,e1,e2,e3,_⟩:=(g.d 1 rfl:(b2 (dE .i64)).rd _ _ _ _)
  omega
 refine pg ?_;intro K p;refine rH (by kernel_rfl) ?_;refine hS 4 [0,1,3] [0,0] (fr':=[(0,.func (.yield L) #[] #[]),(1,.dc fU),(3,.i (I.ap ((f.length:Int)-1)))]) (L:=[fU,0]) tY (gW (g.d 0 rfl).2.2 fp) b (by kernel_rfl) ?_;intro a b;rw[aow i]at b;refine wpList_nil ?_;refine p _ _ ?_;refine ac1 ?_;refine aoQ (λ k a w=>∃(rem:rZ),k=rem.length+1/\(∃pre,f=rem.reverse++pre)/\Fr ⟨19,[]⟩ [(0,.func (.yield L) #[] #[]),(1,.dc fU),(3,.i ((rem.length:Int)-1))] a/\o rem w) (f.length+1) ⟨f.reverse,by simp,⟨[],by simp⟩,by rw[kh];exact b,n⟩ (by rintro a w ⟨rem,h,_⟩;omega) ?_;rintro k a w ⟨rem,l,⟨pre,j⟩,b,d⟩ K q;refine pg ?_;intro s t;refine pg ?_;intro u y;refine rH (by kernel_rfl) ?_;refine hS 2 [0,1,3,8] [] (fr':=[(0,.func (.yield L) #[] #[]),(1,.dc fU),(3,.i ((rem.length:Int)-1)),(8,.bool (decide (0<=(rem.length:Int)-1)))]) (L:=[]) tY fp b (by kernel_rfl) ?_;intro a b;refine wpList_nil ?_;refine y _ _ ?_;refine ac3 (b.g rfl) (λ ag=>?_) (λ ag=>?_)
 ·have ag:=of_decide_eq_true ag;match rem,ag,j,b,d,l with
  |x::rem,_,j,b,d,l=>
  have ad:=aDd j;have e:((x::rem).length:Int)-1=(rem.length:Int):=by simp
  rw[e]at b;refine Tg ?_;refine t _ _ ?_;refine pg ?_;intro z B;refine ac1 ?_;refine pg ?_;intro C D;refine aMj λ F=>?_;refine aFB 6 (by kernel_rfl) ?_;obtain⟨W,M0,X,E,g⟩:=aj _ _ d;refine hS 4 [0,1,3,11,12,13,14] [0,0] (fr':=[(0,.func (.yield L) #[] #[]),(1,.dc fU),(3,.i (rem.length:Int)),(11,.func (.yield L) #[] #[]),(12,.i (rem.length:Int)),(13,.q A c f),(14,.i (rem.length:Int))]) (L:=[fU,0]) tY (gW (g.d 0 rfl).2.2 fp) b (by kernel_rfl) ?_;intro a b;obtain⟨G,hi,_,rfl,hc⟩:=Gu _ (g.d 1 rfl) ad;refine gE wn (rT Tryz.underlying22 Tryz.sizeOf3 rfl (b.g rfl) (b.g rfl) G hi) b rfl rfl ?_;intro a b;refine hS 1 [0,1,3,11,12,16] [0,0] (fr':=[(0,.func (.yield L) #[] #[]),(1,.dc fU),(3,.i (rem.length:Int)),(11,.func (.yield L) #[] #[]),(12,.i (rem.length:Int)),(16,.i x)]) (L:=[dD A,gB A+(rem.length:Int).toNat*1]) tY (gW hc fp) b (by kernel_rfl) ?_;intro a b;refine wpList_nil ?_;refine aPD (vs:=[.i (rem.length:Int),.i x]) wn rfl (b.g rfl) ⟨b.g rfl,b.g rfl,trivial⟩ (hy x rem _ d) b rfl rfl ?_;rintro _ w ⟨rfl,d⟩;refine⟨_,rfl,λ a b=>?_⟩;refine Q' F (by kernel_rfl) ?_;refine hS 1 [0,1,3,18] [] (fr':=[(0,.func (.yield L) #[] #[]),(1,.dc fU),(3,.i (rem.length:Int)),(18,.bool false)]) (L:=[]) tY fp b (by kernel_rfl) ?_;intro a b;refine wpList_nil ?_;refine D _ _ ?_;refine aMi (b.g rfl) rfl ?_;refine Tg ?_;refine B _ _ ?_;refine rH (by kernel_rfl) ?_;refine hS 3 [0,1,3] [] (fr':=[(0,.func (.yield L) #[] #[]),(1,.dc fU),(3,.i (I.ap ((rem.length:Int)-1)))]) (L:=[]) tY fp b (by kernel_rfl) ?_;intro a b;have m:rem.length<=maxLen:=by have:=congrArg hr j;simp at this;omega
  rw[aow m]at b;refine wpList_nil ?_;exact q _ _ ⟨rem,by simpa using l,⟨x::pre,by rw[j];simp⟩,b,d⟩
 ·have ag:=of_decide_eq_false ag
  have H:rem=[]:=by
   cases rem with
   |nil=>rfl
   |cons x r=>exact absurd ag (by simp)
  subst H;refine ac4 ?_;refine vv ?_;refine vv ?_;refine J9 ?_;refine av6 ?_;refine aJs Tryz.results144 b ?_;exact⟨⟨_,rfl⟩,d⟩
theorem awF{W:World}{X:List Nat}{F:Nat}{g:I.bt}{O:Int}{r:List I.Field}{p:Nat}{hb:jg}{v:Nat}{P:Nat}{Q:jg}{R:Nat}{M0:List Nat}(f:bu W M0 X W [] [bA.kf p [.q hb v g.l,.map (some P),.q Q R g.dC],cj I.lU hb v g.l,bA.map o3 (Value.int .i64) P g.bZ,cj (dE .i64) Q R g.dC])(h:I.wE F g O=some r) :
 Calls Tryz.prog 83 [.dc p,.i O].toArray W (λ e w'=>∃x:Option Addr,∃z:Nat,∃B:List Value,e= .returned (.q x z r)/\bu W M0 X w' [a8.row 136 3 (.q x z r) r B] [bA.rows I.kz B r]):=by
 refine ag6 Tryz.func83 rfl Tryz.ntmps83 rfl λ a d=>?_;rw[I.wE]at h;refine wp_seq_k λ K ua=>mY<|wS (cs:=[.dc p]) wn (Ot rfl rfl (d.g rfl)) d f rfl rfl λ a C w _ d f=>mZ 1 [] [] d λ a d=>wpList_nil (ua _ _ ?_);refine wp_seq_k λ K oT=>mY<|wS (cs:=[.slice none 0 0]) wn (Ak Tryz.zeroValue124 rfl rfl) d f rfl rfl λ a s w _ d f=>wpList_nil<|oT _ _<|wp_seq_k λ K kg=>wp_seq_k λ K yp=>mY ?_
 refine qQ 2 [0,0] [(8,.dc p),(9,.i O)] [C,0] (gW (kc (f.e 1 rfl)) fp) d λ a d=>?_;obtain⟨S,Y,h⟩:=I.fz h;have hc:=f;refine Nt (vs:=[.dc p,.i O]) wn rfl Tryz.call114 ⟨(d.g rfl),(d.g rfl),trivial⟩ (af0 ((hc.into 0).pick ⟨⟨0,rfl⟩,⟨1,rfl⟩,⟨2,rfl⟩,⟨3,rfl⟩,trivial⟩) Y) d rfl rfl ?_;rintro _ w ⟨U,V,T0,rfl,t⟩;refine⟨_,rfl,λ a d=>?_⟩;have f:=hc.back 0 t;clear t hc;obtain⟨abv,Z,h⟩:=I.fz h;have hc:=f;have ak:=hc.freeze 0 0 rfl rfl
 refine Nt (vs:=[.q U V S]) wn rfl Tryz.call116 ⟨(d.g rfl),trivial⟩ (af1 ((ak.into 0).pick ⟨⟨0,rfl⟩,trivial⟩) Z) d rfl rfl ?_;rintro _ w ⟨D,rfl,t⟩;refine⟨_,rfl,λ a d=>?_⟩;have l:a_ [] _ w:=t.bU;have f:=hc.hd 0 (by exact trivial) t;clear t hc ak;clear l;refine wpList_nil ?_;have d:=d.cut (l':=[(2,.dc C),(5,.dc s),(11,.func (.func 144) #[] #[.dc D])]);refine yp _ _<|wp_block ?_;have f:=f.freeze 1 0 rfl rfl;have f:=f.ah7 0 rfl;have f:=f.MO (α:=I.Field) 136 3
 have f:=f.more (y:=bA.rows I.kz [] []) rfl;obtain⟨aDD,X1,h⟩:=I.fz h
 refine afX (c:=V) (A:=U) (β:=(Option Addr)×(Nat)×(List I.Field)×(List Value)) (l1:=λ _ u=>[(2,.dc C),(5,.dc s),(7,.i u)]) (λ((n,o,j,q):(Option Addr)×(Nat)×(List I.Field)×(List Value))=>[a8.row 136 3 (.q n o j) j q,a8.cd s 124 [.q n o j],a8.cd C 113 [.dc p]]) (λ((n,o,j,q):(Option Addr)×(Nat)×(List I.Field)×(List Value))=>[bA.rows I.kz q j,bA.kf D [.q U V S],cj (dE .i64) U V S,bA.kf p [.q hb v g.l,.map (some P),.q Q R g.dC],cj I.lU hb v g.l,bA.map o3 (Value.int .i64) P g.bZ,cj (dE .i64) Q R g.dC]) (λ(Sr:rZ)((n,o,j,q):(Option Addr)×(Nat)×(List I.Field)×(List Value))=>I.B2 g Sr j=some aDD) S (none,0,[],[]) 1 2 afY Tryz.call144 d rfl rfl rfl (f.iX [0,1,2,4,5,6,7]) X1 (λ b=>by obtain⟨_,_,_,_⟩:=b;rfl) (λ b=>by obtain⟨_,_,_,_⟩:=b;rfl) ?_ ?_ ?_
 ·clear h X1 f d;intro L aDa u w a K d b5;refine rH (by kernel_rfl)<|mZ 1 [] [(7,.i u)] d λ a d=>wpList_nil ?_;exact b5 _ d.cut
 ·clear h X1 f d;intro L g1 dA g2 cS b aDa u Sr w a K h d f b5;obtain⟨n,o,j,q⟩:=b;dsimp only at h f;rw[I.B2]at h;refine ac1<|aoP (m:=11) 9 (a_ []) (by kernel_rfl) rfl (by kernel_rfl) λ w l=>?_;have f:=f.fo l;clear l;have i:=f;have k:=a_.refl [] w;refine dM [0,1,2,3,4,5] 6 [0,0,1,0,2,0] [(14,.q n o j),(18,.q hb v g.l),(19,.i u)] [p,0,C,0,s,0] (λ c0 l=>(gW (ER l (kc (i.e 3 rfl))) (gW (ER l (kc (i.e 4 rfl))) (gW (ER l (i.d 3 rfl).2.2) fp)))) d k λ a d=>?_;obtain⟨Dn,aC4,h⟩:=I.fz h;obtain⟨aAj,aBG,_,⟨Uj,U8,E,G,rfl,H,J⟩,aA8⟩:=Gu _ (i.d 4 rfl) aC4;have i:=i.more (y:=cj I.kz Uj U8 Dn.Fields) H;have f:=f.more (y:=cj I.kz Uj U8 Dn.Fields) H;have i:=i.more (y:=cj I.sZ E G Dn.bn) J;have f:=f.more (y:=cj I.sZ E G Dn.bn) J;refine av0 6 rfl (by kernel_rfl) wn (λ c0=>rT Tryz.underlying25 Tryz.sizeOf134 rfl (d.g rfl) (d.g rfl) aAj aBG) k d rfl rfl λ a d=>?_;refine dM [7,8] 2 [0,2] [(22,.q Uj U8 Dn.Fields)] [dD hb,gB hb+(u).toNat*4+2] (λ c0 l=>(gW (ER l aA8) fp)) d k λ a d=>hM 9 rfl (by kernel_rfl) (λ _=>k) ?_;obtain⟨Q5,aBU,h⟩:=I.fz h;refine SC (T:=I.kz) 2 2 1 f rfl rfl rfl Tryz.underlying124 aDp rfl rfl aBU rfl wn rfl (d.g rfl) (d.g rfl) d rfl rfl λ a M N aO7 w d f=>fQ ?_;clear i k;have i:=f;have k:=a_.refl [] w;refine eB.next 10 (a_ [] w) (by kernel_rfl)<|hM 10 rfl (by kernel_rfl) (λ _=>k) ?_;refine mD (vs:=[.q M N Q5]) 3 f rfl wn rfl Tryz.sizeOf124 rfl rfl rfl rfl (d.g rfl) (d.g rfl) rfl λ w f=>fQ ?_;clear i k;have i:=f;have k:=a_.refl [] w;refine eB.next 11 (a_ [] w) (by kernel_rfl)<|ED (by kernel_rfl) ?_ (λ _=>k);clear i k;have d:=d.cut (l':=[]);exact b5 (M,N,Q5,aO7) _ _ h (f.iX [0,4,5,6,7,8,9])
 clear f d;intro aQg b a w X2 d f;obtain⟨n,o,j,q⟩:=b;dsimp only at X2 f;rw[I.B2]at X2;obtain rfl:=oi X2;have d:=d.cut (l':=[(5,.dc s)]);refine kg _ _<|wp_seq_k λ K ub=>rg [0,0] [(4,.q n o j)] [s,0] (gW (kc (f.e 2 rfl)) fp) d λ a d=>ub _ _<|wp_ret ?_;obtain rfl:=oi h;refine aFS 0 Tryz.results83 d f rfl rfl λ w f=>?_;exact⟨n,o,q,rfl,f.rC [1] [0]⟩
set_option maxHeartbeats 4000000
set_option maxRecDepth 20000
theorem awJ{W:World}{X:List Nat}{F:Nat}{s_:List (List UInt8)}{g:List UInt8}{r:Int}{f:jg}{i:Nat}{M0:List Nat}(d:bu W M0 X W [] [cj ky f i s_])(h:I.NG F s_ g=some r) :
 Calls Tryz.prog 117 [.q f i s_,cu g].toArray W (λ e w'=>e= .returned (.i r)/\bu W M0 X w' [] []):=by
 refine enter Tryz.func117 rfl Tryz.ntmps117 rfl λ a b=>?_;rw[I.NG]at h;refine sg [] [] b λ a b=>wp_seq_k λ K t=>sg [] [(7,.i (s_.length:Int)),(8,.i 0)] b λ a b=>?_;obtain⟨j,h,k⟩:=I.aKY h;refine Pg (λ a w=>Fr ⟨19,[]⟩ [] a/\bu W M0 X w [] [cj ky f i s_]/\j=(.go ())) (λ K u=>?_) ?_
 ·refine Va (λ(s:Nat) a w=>∃(c:Int),Fr ⟨19,[]⟩ [(0,.q f i s_),(1,cu g),(7,.i (s_.length:Int)),(8,.i c)] a/\bu W M0 X w [] [cj ky f i s_]/\I.CY s_ g s c=some j) F ⟨0,b.cut,d,h⟩ ?_ ?_;rintro a w ⟨c,b,d,h⟩;exact absurd h (by simp[I.CY]);rintro s a w ⟨c,b,d,h⟩ K v;rw[I.CY]at h;refine sg [] [(9,.bool (decide (c<(s_.length:Int))))] b λ a b=>wp_seq_k λ K Lp=>Pj (b.g rfl) h (λ l h=>?_) (λ l h=>?_);refine wp_skip<|Lp _ _<|wp_seq_k λ K x=>wp_block<|sg [] [(5,.i c)] b λ a b=>wp_seq_k λ K y=>mY<|mZ 3 [] [(11,cu g),(12,.q f i s_),(13,.i c)] b λ a b=>?_;obtain⟨z,m,h⟩:=I.fz h;obtain⟨n,o,_,rfl,p⟩:=Gu _ (d.d 0 rfl) m;refine gE wn (rT Tryz.underlying120 Tryz.sizeOf9 rfl (b.g rfl) (b.g rfl) n o) b rfl rfl λ a b=>qQ 2 [0,0] [(16,.bool (decide (g=z)))] [dD f,gB f+(c).toNat*1] (gW p fp) b λ a b=>wpList_nil (y _ _ ?_);refine Pj (b.g rfl) h (λ q h=>?_) (λ q h=>?_);refine NH [] [(4,.i c)] b λ a b=>wp_ret ?_;obtain rfl:=oi h;obtain rfl:=oi k;refine aqU (TX (TX (aqU (TX (TX ?_)))));refine CJ Tryz.results117 b rfl ?_;exact⟨rfl,d.rC [] []⟩;refine wp_skip<|x _ _<|agr [] [(8,.i (I.ap (c+1)))] b λ a b=>?_;exact v _ _ ⟨I.ap (c+1),b.cut,d,h⟩;refine wp_exit<|vv (vv (J9 ?_));exact u _ _ ⟨b.cut,d,(os h)⟩
 rintro a w ⟨b,d,ax⟩;subst j;have h:=k;clear k;dsimp only[I.af_]at h;refine t _ _<|NH [] [(4,.i (-1))] b λ a b=>wp_ret ?_;obtain rfl:=oi h;refine CJ Tryz.results117 b rfl ?_;exact⟨rfl,d.rC [] []⟩
theorem awG{W:World}{X:List Nat}{F:Nat}{j:I.bt}{dz:Int}{r:(List (List UInt8))×(List I.Target)}{t:Nat}{hb:jg}{z:Nat}{B:Nat}{C:jg}{D:Nat}{M0:List Nat}(f:bu W M0 X W [] [bA.kf t [.q hb z j.l,.map (some B),.q C D j.dC],cj I.lU hb z j.l,bA.map o3 (Value.int .i64) B j.bZ,cj (dE .i64) C D j.dC])(h:I.F4 F j dz=some r) :
 Calls Tryz.prog 82 [.dc t,.i dz].toArray W (λ e w'=>∃aeK:Option Addr,∃afR:Nat,∃aq1:List Value,∃aeL:Option Addr,∃afS:Nat,∃aq2:List Value,e= .returned (.tuple #[.q aeK afR r.1,.q aeL afS r.2])/\bu W M0 X w' [a8.row 9 1 (.q aeK afR r.1) r.1 aq1,a8.row 166 2 (.q aeL afS r.2) r.2 aq2] [bA.rows ky aq1 r.1,bA.rows I.lV aq2 r.2]):=by
 refine ag6 Tryz.func82 rfl Tryz.ntmps82 rfl λ a d=>?_;rw[I.F4]at h;refine wp_seq_k λ K ua=>mY<|wS (cs:=[.dc t]) wn (Ot rfl rfl (d.g rfl)) d f rfl rfl λ a U w _ d f=>mZ 2 [] [] d λ a d=>wpList_nil (ua _ _ ?_);refine wp_seq_k λ K oT=>mY<|wS (cs:=[.slice none 0 0]) wn (Ak Tryz.zeroValue120 rfl rfl) d f rfl rfl λ a q w _ d f=>wpList_nil<|oT _ _<|wp_seq_k λ K kg=>mY<|wS (cs:=[.slice none 0 0]) wn (Ak Tryz.zeroValue121 rfl rfl) d f rfl rfl λ a s w _ d f=>wpList_nil ?_
 refine kg _ _<|wp_seq_k λ K yp=>wp_seq_k λ K ub=>mY<|qQ 2 [0,0] [(14,.dc t),(15,.i dz)] [U,0] (gW (kc (f.e 2 rfl)) fp) d λ a d=>?_;obtain⟨E,aCr,h⟩:=I.fz h;have hc:=f;refine Nt (vs:=[.dc t,.i dz]) wn rfl Tryz.call114 ⟨(d.g rfl),(d.g rfl),trivial⟩ (af0 ((hc.into 0).pick ⟨⟨0,rfl⟩,⟨1,rfl⟩,⟨2,rfl⟩,⟨3,rfl⟩,trivial⟩) aCr) d rfl rfl ?_;rintro _ w ⟨G,H,aRj,rfl,R⟩;refine⟨_,rfl,λ a d=>?_⟩;have f:=hc.back 0 R;clear R hc;obtain⟨ib,aCt,h⟩:=I.fz h;have hc:=f
 have ak:=hc.freeze 0 0 rfl rfl;refine Nt (vs:=[.q G H E]) wn rfl Tryz.call116 ⟨(d.g rfl),trivial⟩ (af1 ((ak.into 0).pick ⟨⟨0,rfl⟩,trivial⟩) aCt) d rfl rfl ?_;rintro _ w ⟨H',rfl,R⟩;refine⟨_,rfl,λ a d=>?_⟩;have i:a_ [] _ w:=R.bU;have f:=hc.hd 0 (by exact trivial) R;clear R hc ak;clear i;refine wpList_nil ?_;have d:=d.cut (l':=[(2,.dc U),(6,.dc q),(7,.dc s),(17,.func (.func 144) #[] #[.dc H'])]);refine ub _ _<|wp_block ?_;have f:=f.freeze 1 0 rfl rfl
 have f:=f.ah7 0 rfl;have f:=f.MO (α:=I.Target) 166 2;have f:=f.more (y:=bA.rows I.lV [] []) rfl;have f:=f.MO (α:=List UInt8) 9 1;have f:=f.more (y:=bA.rows ky [] []) rfl;obtain⟨aDC,XZ,h⟩:=I.fz h
 refine afX (c:=H) (A:=G) (β:=(Option Addr)×(Nat)×(List (List UInt8))×(List Value)×(Option Addr)×(Nat)×(List I.Target)×(List Value)) (l1:=λ _ n=>[(2,.dc U),(6,.dc q),(7,.dc s),(9,.i n)]) (λ((V,Y,M,Dv,Z,x_,N,Dw):(Option Addr)×(Nat)×(List (List UInt8))×(List Value)×(Option Addr)×(Nat)×(List I.Target)×(List Value))=>[a8.row 9 1 (.q V Y M) M Dv,a8.row 166 2 (.q Z x_ N) N Dw,a8.cd s 121 [.q Z x_ N],a8.cd q 120 [.q V Y M],a8.cd U 113 [.dc t]]) (λ((V,Y,M,Dv,Z,x_,N,Dw):(Option Addr)×(Nat)×(List (List UInt8))×(List Value)×(Option Addr)×(Nat)×(List I.Target)×(List Value))=>[bA.rows ky Dv M,bA.rows I.lV Dw N,bA.kf H' [.q G H E],cj (dE .i64) G H E,bA.kf t [.q hb z j.l,.map (some B),.q C D j.dC],cj I.lU hb z j.l,bA.map o3 (Value.int .i64) B j.bZ,cj (dE .i64) C D j.dC]) (λ(Ss:rZ)((V,Y,M,Dv,Z,x_,N,Dw):(Option Addr)×(Nat)×(List (List UInt8))×(List Value)×(Option Addr)×(Nat)×(List I.Target)×(List Value))=>I.B7 F j Ss M N=some aDC) E (none,0,[],[],none,0,[],[]) 2 3 afY Tryz.call144 d rfl rfl rfl (f.iX [0,0,2,3,5,6,7,8]) XZ (λ b=>by obtain⟨_,_,_,_,_,_,_,_⟩:=b;rfl) (λ b=>by obtain⟨_,_,_,_,_,_,_,_⟩:=b;rfl) ?_ ?_ ?_
 ·clear h XZ f d;intro L aDb n w a K d b5;refine rH (by kernel_rfl)<|mZ 1 [] [(9,.i n)] d λ a d=>wpList_nil ?_;exact b5 _ d.cut
 ·clear h XZ f d;intro L g1 dA g2 cS b aDb n Ss w a K h d f b5;obtain⟨V,Y,M,Dv,Z,x_,N,Dw⟩:=b;dsimp only at h f;rw[I.B7]at h;obtain⟨aj2,h,XW⟩:=I.fz h;refine ac2 (λ a w=>∃(OC:jg)(O_:Nat)(zb:List (List UInt8))(T1:qF)(OD:jg)(O':Nat)(zc:List I.Target)(T2:qF),Fr ⟨59,[]⟩ [] a/\bu W M0 X w [a8.obj g1 dA,a8.obj g2 cS,a8.row 9 1 (.q OC O_ zb) zb T1,a8.row 166 2 (.q OD O' zc) zc T2,a8.cd s 121 [.q OD O' zc],a8.cd q 120 [.q OC O_ zb],a8.cd U 113 [.dc t]] [bA.rows ky T1 zb,bA.rows I.lV T2 zc,bA.kf H' [.q G H E],cj (dE .i64) G H E,bA.kf t [.q hb z j.l,.map (some B),.q C D j.dC],cj I.lU hb z j.l,bA.map o3 (Value.int .i64) B j.bZ,cj (dE .i64) C D j.dC]/\aj2=(zb,zc)) (λ K Ln=>?_) ?_
  ·clear XW;refine pg λ K Lp=>rH (by kernel_rfl)<|qQ 5 [0,0,1,0] [(23,.q hb z j.l),(24,.i n)] [t,0,U,0] (gW (kc (f.e 6 rfl)) (gW (f.d 4 rfl).2.2 fp)) d λ a d=>?_;obtain⟨p,aC5,h⟩:=I.fz h;obtain⟨aAi,aBF,_,⟨OE,Pa,u,J,rfl,aBg,aBh⟩,aA7⟩:=Gu _ (f.d 5 rfl) aC5;have f:=f.more (y:=cj I.kz OE Pa p.Fields) aBg;have f:=f.more (y:=cj I.sZ u J p.bn) aBh;refine gE wn (rT Tryz.underlying25 Tryz.sizeOf134 rfl (d.g rfl) (d.g rfl) aAi aBF) d rfl rfl λ a d=>?_;refine qQ 4 [0,3] [(27,.q u J p.bn),(28,.i (p.bn.length:Int)),(29,.i 0)] [dD hb,gB hb+(n).toNat*4+3] (gW aA7 fp) d λ a d=>wpList_nil (Lp _ _ ?_);obtain⟨Y4,h,XX⟩:=I.fz h;refine ac2 (λ a w=>∃(OG:jg)(Pb:Nat)(zd:List (List UInt8))(T3:qF)(OH:jg)(Pc:Nat)(zf:List I.Target)(T4:qF),Fr ⟨59,[]⟩ [] a/\bu W M0 X w [a8.obj g1 dA,a8.obj g2 cS,a8.row 9 1 (.q OG Pb zd) zd T3,a8.row 166 2 (.q OH Pc zf) zf T4,a8.cd s 121 [.q OH Pc zf],a8.cd q 120 [.q OG Pb zd],a8.cd U 113 [.dc t]] [bA.rows ky T3 zd,bA.rows I.lV T4 zf,cj I.sZ u J p.bn,cj I.kz OE Pa p.Fields,bA.kf H' [.q G H E],cj (dE .i64) G H E,bA.kf t [.q hb z j.l,.map (some B),.q C D j.dC],cj I.lU hb z j.l,bA.map o3 (Value.int .i64) B j.bZ,cj (dE .i64) C D j.dC]/\Y4=(zd,zf)) (λ K Lq=>?_) ?_
   ·clear XX;refine aoQ (λ(eX:Nat) a w=>∃(O:jg)(P:Nat)(v:List (List UInt8))(J':qF)(Ar:jg)(A9:Nat)(S:List I.Target)(Oo:qF)(k:Int),Fr ⟨59,[]⟩ [(6,.dc q),(7,.dc s),(9,.i n),(27,.q u J p.bn),(28,.i (p.bn.length:Int)),(29,.i k)] a/\bu W M0 X w [a8.obj g1 dA,a8.obj g2 cS,a8.row 9 1 (.q O P v) v J',a8.row 166 2 (.q Ar A9 S) S Oo,a8.cd s 121 [.q Ar A9 S],a8.cd q 120 [.q O P v],a8.cd U 113 [.dc t]] [bA.rows ky J' v,bA.rows I.lV Oo S,cj I.sZ u J p.bn,cj I.kz OE Pa p.Fields,bA.kf H' [.q G H E],cj (dE .i64) G H E,bA.kf t [.q hb z j.l,.map (some B),.q C D j.dC],cj I.lU hb z j.l,bA.map o3 (Value.int .i64) B j.bZ,cj (dE .i64) C D j.dC]/\I.B8 F n p eX v S k=some Y4) F ⟨V,Y,M,Dv,Z,x_,N,Dw,0,d.cut,f.iX [2,3,0,1,4,5,6,7,8,9],h⟩ ?_ ?_;rintro a w ⟨O,P,v,J',Ar,A9,S,Oo,k,d,f,h⟩;exact absurd h (by simp[I.B8]);rintro eX a w ⟨O,P,v,J',Ar,A9,S,Oo,k,d,f,h⟩ K Xs;rw[I.B8]at h;refine pg λ K Lm=>rH (by kernel_rfl)<|mZ 1 [] [(30,.bool (decide (k<(p.bn.length:Int))))] d λ a d=>wpList_nil (Lm _ _ ?_);refine pg λ K aAv=>ac3 (d.g rfl) (λ XB=>?_) (λ XB=>?_)
    ·have h:=I.Vj XB h;refine Tg<|aAv _ _<|pg λ K aAw=>?_;obtain⟨aj3,h,XY⟩:=I.fz h;refine ac2 (λ a w=>∃(OI:jg)(Pd:Nat)(zg:List (List UInt8))(T5:qF)(OJ:jg)(Pf:Nat)(zh:List I.Target)(T6:qF),Fr ⟨59,[]⟩ [(6,.dc q),(7,.dc s),(9,.i n),(27,.q u J p.bn),(28,.i (p.bn.length:Int)),(29,.i k)] a/\bu W M0 X w [a8.obj g1 dA,a8.obj g2 cS,a8.row 9 1 (.q OI Pd zg) zg T5,a8.row 166 2 (.q OJ Pf zh) zh T6,a8.cd s 121 [.q OJ Pf zh],a8.cd q 120 [.q OI Pd zg],a8.cd U 113 [.dc t]] [bA.rows ky T5 zg,bA.rows I.lV T6 zh,cj I.sZ u J p.bn,cj I.kz OE Pa p.Fields,bA.kf H' [.q G H E],cj (dE .i64) G H E,bA.kf t [.q hb z j.l,.map (some B),.q C D j.dC],cj I.lU hb z j.l,bA.map o3 (Value.int .i64) B j.bZ,cj (dE .i64) C D j.dC]/\aj3=(zg,zh)) (λ K Qc=>?_) ?_
     ·clear XY;refine pg λ K aAx=>rH (by kernel_rfl)<|mZ 1 [] [(31,.i k)] d λ a d=>?_;obtain⟨o,aC6,h⟩:=I.fz h;obtain⟨aAk,aBH,_,⟨Uk,U9,Ul,U_,rfl,aBi,aBj⟩,aA9⟩:=Gu _ (f.d 2 rfl) aC6;have f:=f.more (y:=cj I.Gz Uk U9 o.cD) aBi;have f:=f.more (y:=cj I.Gy Ul U_ o.cL) aBj;refine gE wn (rT Tryz.underlying132 Tryz.sizeOf131 rfl (d.g rfl) (d.g rfl) aAk aBH) d rfl rfl λ a d=>?_;refine qQ 1 [0,0] [(33,.agg #[cu o.Name,.bool o.Static,.q Uk U9 o.cD,.i o.Returns.Kind,cu o.Returns.al,.i o.iO,.i o.iL,cu o.Code,.q Ul U_ o.cL])] [dD u,gB u+(k).toNat*9] (gW aA9 fp) d λ a d=>wS (cs:=[cu [],.bool false,.slice none 0 0,.i 0,cu [],.i 0,.i 0,cu [],.slice none 0 0]) wn (Ak Tryz.zeroValue131 rfl rfl) d f rfl rfl λ a Wq w _ d f=>mZ 1 [] [(10,.i k)] d λ a d=>?_;refine mD (vs:=[cu o.Name,.bool o.Static,.q Uk U9 o.cD,.i o.Returns.Kind,cu o.Returns.al,.i o.iO,.i o.iL,cu o.Code,.q Ul U_ o.cL]) 0 f rfl wn rfl Tryz.sizeOf131 rfl rfl rfl rfl (d.g rfl) (d.g rfl) rfl λ w f=>wpList_nil<|aAx _ _<|pg λ K aAy=>rH (by kernel_rfl)<|mZ 2 [] [(34,.i n),(35,.i k)] d λ a d=>?_;refine gE wn (aPb (vs:=[(0,.i n),(1,.i k)]) (cs:=[.i n,.i k]) Tryz.zeroValue166 Tryz.underlying166 aHB rfl ⟨⟨(d.g rfl),rfl⟩,⟨(d.g rfl),rfl⟩,trivial⟩ (by kernel_rfl)) d rfl rfl λ a d=>wS (cs:=[.i 0,.i 0]) wn (Ak Tryz.zeroValue166 rfl rfl) d f rfl rfl λ a Wr w _ d f=>mD (vs:=[.i n,.i k]) 0 f rfl wn rfl Tryz.sizeOf166 rfl rfl rfl rfl (d.g rfl) (d.g rfl) rfl λ w f=>wpList_nil ?_;have d:=d.cut (l':=[(6,.dc q),(7,.dc s),(9,.i n),(11,.dc Wq),(12,.dc Wr),(27,.q u J p.bn),(28,.i (p.bn.length:Int)),(29,.i k)]);refine aAy _ _<|pg λ K aAz=>pg λ K aAA=>rH (by kernel_rfl)<|qQ 3 [0,0,1,0] [(37,.q O P v),(39,cu o.Name)] [Wq,0,q,0] (gW (kc (f.e 7 rfl)) (gW (kc (f.e 1 rfl)) fp)) d λ a d=>?_;obtain⟨Gs,aCu,h⟩:=I.fz h;have hc:=f;have ak:=hc.freeze 4 2 rfl rfl;refine Nt (vs:=[.q O P v,cu o.Name]) wn rfl Tryz.call117 ⟨(d.g rfl),(d.g rfl),trivial⟩ (awJ ((ak.into 0).pick ⟨⟨0,rfl⟩,trivial⟩) aCu) d rfl rfl ?_;rintro _ w ⟨rfl,R⟩;refine⟨_,rfl,λ a d=>?_⟩;have i:a_ [] _ w:=R.bU;have f:=hc.hd 0 (by exact trivial) R;clear R hc ak;clear i;refine mZ 1 [] [(13,.i Gs)] d λ a d=>wpList_nil (aAA _ _ ?_);refine pg λ K aAB=>rH (by kernel_rfl)<|mZ 2 [] [(42,.bool (decide (0<=Gs)))] d λ a d=>wpList_nil (aAB _ _ ?_);refine ac3 (d.g rfl) (λ XC=>?_) (λ XC=>?_)
      ·have h:=I.Vj XC h;refine pg λ K aAC=>rH (by kernel_rfl)<|qQ 3 [0,0,1,0] [(43,.q Ar A9 S),(44,.i Gs),(45,.agg #[.i n,.i k])] [Wr,0,s,0] (gW (kc (f.e 6 rfl)) (gW (kc (f.e 0 rfl)) fp)) d λ a d=>?_;obtain⟨ad_,ajJ,h⟩:=I.fz h;obtain⟨aAl,aBI,_,rfl,aA_⟩:=aKn (f.e 5 rfl) (f.d 3 rfl) ajJ;refine gE wn (rT Tryz.underlying121 Tryz.sizeOf166 rfl (d.g rfl) (d.g rfl) aAl aBI) d rfl rfl λ a d=>?_;obtain⟨Zl,aBS,h⟩:=I.fz h;refine aLa (T:=I.lV) (d':=(⟨n,k⟩:I.Target)) (vs:=[.i n,.i k]) (cs0:=[.i ad_.al,.i ad_.Method]) (kk:=0) 5 3 aBS f rfl rfl ajJ rfl aA_ wn rfl Tryz.sizeOf166 rfl rfl rfl rfl rfl (d.g rfl) (d.g rfl) rfl λ aO5 w Q i f=>?_;try unfold Value.q at f;try unfold Value.q at d;rw[Q]at f;try rw[Q]at d;clear Q;clear i;refine wpList_nil ?_;have d:=d.cut (l':=[(6,.dc q),(7,.dc s),(9,.i n),(27,.q u J p.bn),(28,.i (p.bn.length:Int)),(29,.i k)]);refine aAC _ _<|ac4<|vv (J9 ?_)
       exact Qc _ _ ⟨O,P,v,J',Ar,A9,Zl,aO5,d.cut,f.rC [2,3,4,5,6,7,8] [3,0,5,6,7,8,9,10,11,12],(os h)⟩
      have h:=I.Vi XC h;refine Tg<|aAz _ _<|aoP (m:=11) 8 (a_ (Value.q O P v).ownBlock.toList) (by kernel_rfl) rfl (by kernel_rfl) λ w i=>?_;have f:=f.fo i;clear i;have l:=f;have g:=a_.refl (Value.q O P v).ownBlock.toList w;refine dM [0,1,2,5,6] 5 [0,0,1,0,2,0,3,0] [(47,.q O P v),(49,cu o.Name),(52,.q Ar A9 S),(53,.agg #[.i n,.i k])] [Wr,0,s,0,Wq,0,q,0] (λ c0 i=>(gW (PI i (l.RL 7 4 rfl rfl (by decide)) (KO (l.e 7 rfl)) (kc (l.e 7 rfl))) (gW (PI i (l.RL 1 4 rfl rfl (by decide)) (KO (l.e 1 rfl)) (kc (l.e 1 rfl))) (gW (PI i (l.RL 6 4 rfl rfl (by decide)) (KO (l.e 6 rfl)) (kc (l.e 6 rfl))) (gW (PI i (l.RL 0 4 rfl rfl (by decide)) (KO (l.e 0 rfl)) (kc (l.e 0 rfl))) fp))))) d g λ a d=>O2 3 7 rfl rfl (by kernel_rfl) (λ _=>g) ?_ ?_;refine wT (cs:=[cu o.Name]) wn (Ha (vs:=[(0,cu o.Name)]) Tryz.underlying120 Tryz.sizeOf9 Tryz.zeroValue9 rfl rfl rfl ⟨⟨(d.g rfl),rfl⟩,trivial⟩ (by kernel_rfl)) d f rfl rfl λ a az5 w i LC d f=>?_;have LC:=fR g.size LC;have g:=g.trans i (by simp);clear i;refine fQ<|O2 4 7 rfl rfl (by kernel_rfl) (λ _=>g) ?_ ?_;obtain⟨Q4,aBT,h⟩:=I.fz h;refine acd (T:=ky) (ml:=[o.Name]) 5 0 2 f rfl rfl rfl Tryz.underlying120 YP rfl rfl aBT rfl rfl ⟨_,_,rfl,rfl,rfl⟩ wn rfl (d.g rfl) (d.g rfl) d rfl rfl λ a aeJ afQ aO6 w i d f=>?_;have g:=g.trans i (λ x ad=>.inl ad);clear i;refine fQ<|hM 7 rfl (by kernel_rfl) (λ _=>g)<|wT (cs:=[.i n,.i k]) wn (Ha (vs:=[(0,.agg #[.i n,.i k])]) Tryz.underlying121 Tryz.sizeOf166 Tryz.zeroValue166 rfl rfl rfl ⟨⟨(d.g rfl),rfl⟩,trivial⟩ (by kernel_rfl)) d f rfl rfl λ a aQe w i ai5 d f=>?_;have ai5:=fR g.size ai5;have g:=g.trans i (by simp);clear i;refine fQ ?_;refine hM 8 rfl (by kernel_rfl) (λ _=>g) ?_;obtain⟨wA,LU,h⟩:=I.fz h;refine Ns (T:=I.lV) (ml:=[(⟨n,k⟩:I.Target)]) 6 0 4 f rfl rfl rfl Tryz.underlying121 YO rfl rfl LU rfl rfl ⟨_,_,rfl,rfl,rfl⟩ wn rfl (d.g rfl) (d.g rfl) d rfl rfl λ a As A_ Oq w d f=>fQ ?_;clear l g;have l:=f;have g:=a_.refl [] w;refine eB.next 9 (a_ [] w) (by kernel_rfl)<|hM 9 rfl (by kernel_rfl) (λ _=>g)<|mD (vs:=[.q aeJ afQ Q4]) 7 f rfl wn rfl Tryz.sizeOf120 rfl rfl rfl rfl (d.g rfl) (d.g rfl) rfl λ w f=>fQ ?_;clear l g;have l:=f;have g:=a_.refl [] w;refine eB.next 10 (a_ [] w) (by kernel_rfl)<|hM 10 rfl (by kernel_rfl) (λ _=>g)<|mD (vs:=[.q As A_ wA]) 6 f rfl wn rfl Tryz.sizeOf121 rfl rfl rfl rfl (d.g rfl) (d.g rfl) rfl λ w f=>fQ ?_;clear l g;have l:=f;have g:=a_.refl [] w;refine eB.next 11 (a_ [] w) (by kernel_rfl)<|ED (by kernel_rfl) ?_ (λ _=>g);clear l g;have d:=d.cut (l':=[(6,.dc q),(7,.dc s),(9,.i n),(27,.q u J p.bn),(28,.i (p.bn.length:Int)),(29,.i k)]);exact Qc _ _ ⟨aeJ,afQ,Q4,aO6,As,A_,wA,Oq,d.cut,f.rC [2,3,4,5,6,7,8] [1,0,6,7,8,9,10,11,12,13],(os h)⟩;refine wT (cs:=[.i n,.i k]) wn (Ha (vs:=[(0,.agg #[.i n,.i k])]) Tryz.underlying121 Tryz.sizeOf166 Tryz.zeroValue166 rfl rfl rfl ⟨⟨(d.g rfl),rfl⟩,trivial⟩ (by kernel_rfl)) d f rfl rfl λ a az6 w i LD d f=>?_;have LD:=fR g.size LD;have g:=g.trans i (by simp);clear i;refine fQ<|hM 4 rfl (by kernel_rfl) (λ _=>g) ?_;obtain⟨Mt,X6,h⟩:=I.fz h;refine acd (T:=ky) (ml:=[o.Name]) 6 1 2 f rfl rfl rfl Tryz.underlying120 YP rfl rfl X6 rfl rfl ⟨_,_,rfl,rfl,rfl⟩ wn rfl (d.g rfl) (d.g rfl) d rfl rfl λ a Ki KS aeo w i d f=>?_;have g:=g.trans i (λ x ad=>.inl ad);clear i;refine fQ ?_;refine hM 8 rfl (by kernel_rfl) (λ _=>g) ?_;obtain⟨wA,LU,h⟩:=I.fz h;refine Ns (T:=I.lV) (ml:=[(⟨n,k⟩:I.Target)]) 6 0 4 f rfl rfl rfl Tryz.underlying121 YO rfl rfl LU rfl rfl ⟨_,_,rfl,rfl,rfl⟩ wn rfl (d.g rfl) (d.g rfl) d rfl rfl λ a As A_ Oq w d f=>fQ ?_;clear l g;have l:=f;have g:=a_.refl [] w;refine eB.next 9 (a_ [] w) (by kernel_rfl)<|hM 9 rfl (by kernel_rfl) (λ _=>g)<|mD (vs:=[.q Ki KS Mt]) 7 f rfl wn rfl Tryz.sizeOf120 rfl rfl rfl rfl (d.g rfl) (d.g rfl) rfl λ w f=>fQ ?_;clear l g;have l:=f;have g:=a_.refl [] w;refine eB.next 10 (a_ [] w) (by kernel_rfl)<|hM 10 rfl (by kernel_rfl) (λ _=>g)<|mD (vs:=[.q As A_ wA]) 6 f rfl wn rfl Tryz.sizeOf121 rfl rfl rfl rfl (d.g rfl) (d.g rfl) rfl λ w f=>fQ ?_;clear l g;have l:=f;have g:=a_.refl [] w;refine eB.next 11 (a_ [] w) (by kernel_rfl)<|ED (by kernel_rfl) ?_ (λ _=>g);clear l g;have d:=d.cut (l':=[(6,.dc q),(7,.dc s),(9,.i n),(27,.q u J p.bn),(28,.i (p.bn.length:Int)),(29,.i k)]);exact Qc _ _ ⟨Ki,KS,Mt,aeo,As,A_,wA,Oq,d.cut,f.rC [2,3,4,5,6,7,8] [1,0,6,7,8,9,10,11,12,13],(os h)⟩;refine wT (cs:=[.i n,.i k]) wn (Ha (vs:=[(0,.agg #[.i n,.i k])]) Tryz.underlying121 Tryz.sizeOf166 Tryz.zeroValue166 rfl rfl rfl ⟨⟨(d.g rfl),rfl⟩,trivial⟩ (by kernel_rfl)) d f rfl rfl λ a az5 w i LC d f=>?_;have LC:=fR g.size LC;have g:=g.trans i (by simp);clear i;refine fQ<|hM 3 rfl (by kernel_rfl) (λ _=>g)<|wT (cs:=[cu o.Name]) wn (Ha (vs:=[(0,cu o.Name)]) Tryz.underlying120 Tryz.sizeOf9 Tryz.zeroValue9 rfl rfl rfl ⟨⟨(d.g rfl),rfl⟩,trivial⟩ (by kernel_rfl)) d f rfl rfl λ a az6 w i LD d f=>?_;have LD:=fR g.size LD;have g:=g.trans i (by simp);clear i;refine fQ ?_;refine hM 4 rfl (by kernel_rfl) (λ _=>g) ?_;obtain⟨Mt,X6,h⟩:=I.fz h;refine acd (T:=ky) (ml:=[o.Name]) 6 0 2 f rfl rfl rfl Tryz.underlying120 YP rfl rfl X6 rfl rfl ⟨_,_,rfl,rfl,rfl⟩ wn rfl (d.g rfl) (d.g rfl) d rfl rfl λ a Ki KS aeo w i d f=>?_;have g:=g.trans i (λ x ad=>.inl ad);clear i;refine fQ<|hM 8 rfl (by kernel_rfl) (λ _=>g) ?_;obtain⟨wA,LU,h⟩:=I.fz h;refine Ns (T:=I.lV) (ml:=[(⟨n,k⟩:I.Target)]) 6 0 4 f rfl rfl rfl Tryz.underlying121 YO rfl rfl LU rfl rfl ⟨_,_,rfl,rfl,rfl⟩ wn rfl (d.g rfl) (d.g rfl) d rfl rfl λ a As A_ Oq w d f=>fQ ?_;clear l g;have l:=f;have g:=a_.refl [] w;refine eB.next 9 (a_ [] w) (by kernel_rfl)<|hM 9 rfl (by kernel_rfl) (λ _=>g)<|mD (vs:=[.q Ki KS Mt]) 7 f rfl wn rfl Tryz.sizeOf120 rfl rfl rfl rfl (d.g rfl) (d.g rfl) rfl λ w f=>fQ ?_;clear l g;have l:=f;have g:=a_.refl [] w;refine eB.next 10 (a_ [] w) (by kernel_rfl)<|hM 10 rfl (by kernel_rfl) (λ _=>g)<|mD (vs:=[.q As A_ wA]) 6 f rfl wn rfl Tryz.sizeOf121 rfl rfl rfl rfl (d.g rfl) (d.g rfl) rfl λ w f=>fQ ?_;clear l g;have l:=f;have g:=a_.refl [] w;refine eB.next 11 (a_ [] w) (by kernel_rfl)<|ED (by kernel_rfl) ?_ (λ _=>g);clear l g;have d:=d.cut (l':=[(6,.dc q),(7,.dc s),(9,.i n),(27,.q u J p.bn),(28,.i (p.bn.length:Int)),(29,.i k)]);exact Qc _ _ ⟨Ki,KS,Mt,aeo,As,A_,wA,Oq,d.cut,f.rC [2,3,4,5,6,7,8] [1,0,6,7,8,9,10,11,12,13],(os h)⟩
     rintro a w ⟨OI,Pd,zg,T5,OJ,Pf,zh,T6,d,f,ax⟩;subst aj3;have h:=XY;clear XY;dsimp only at h;refine aAw _ _<|rH (by kernel_rfl)<|mZ 2 [] [(29,.i (I.ap (k+1)))] d λ a d=>wpList_nil ?_;exact Xs _ _ ⟨OI,Pd,zg,T5,OJ,Pf,zh,T6,I.ap (k+1),d.cut,f,h⟩
    have h:=I.Vi XB h;refine ac4<|vv (vv (J9 ?_));exact Lq _ _ ⟨O,P,v,J',Ar,A9,S,Oo,d.cut,f,(os h)⟩
   rintro a w ⟨OG,Pb,zd,T3,OH,Pc,zf,T4,d,f,ax⟩;subst Y4;have h:=XX;clear XX;dsimp only at h;exact Ln _ _ ⟨OG,Pb,zd,T3,OH,Pc,zf,T4,d.cut,f.iX [0,1,4,5,6,7,8,9],(os h)⟩
  rintro a w ⟨OC,O_,zb,T1,OD,O',zc,T2,d,f,ax⟩;subst aj2;have h:=XW;clear XW;dsimp only at h;exact b5 (OC,O_,zb,T1,OD,O',zc,T2) _ _ h (f)
 clear f d;intro aQf b a w X0 d f;obtain⟨V,Y,M,Dv,Z,x_,N,Dw⟩:=b;dsimp only at X0 f;rw[I.B7]at X0;obtain rfl:=oi X0;have d:=d.cut (l':=[(6,.dc q),(7,.dc s)]);dsimp only at h;refine yp _ _<|wp_seq_k λ K aAD=>awI (by kernel_rfl) (by kernel_rfl)<|aIa 4 [0,0,1,0] [(4,.q V Y M),(5,.q Z x_ N)] [s,0,q,0] (λ c0 i=>(gW (ER i (kc (f.e 4 rfl))) (gW (ER i (kc (f.e 3 rfl))) fp))) d λ a d=>wpQuiet_nil λ w i=>?_;have f:=f.fo i;clear i;refine aAD _ _<|wp_ret ?_
 obtain rfl:=oi h;refine aFT 0 Tryz.results82 d f rfl rfl rfl λ w f=>?_;exact⟨V,Y,Dv,Z,x_,Dw,rfl,f.rC [1,2] [0,1]⟩
section
variable{F:Nat->Prop}{w:World}
theorem awd{cs:List Value}{d:I.Kind}(h:(bf.ty 128).rd F w cs d):I.Gz.rd F w cs d:=by change fC (λ t=>(gf PC t).ty) F w [.i .i64,.s] cs (d.Kind,d.al,())at h;obtain⟨_,_,rfl,rfl,_,_,rfl,rfl,rfl⟩:=h;rfl
theorem awc{cs:List Value}{d:I.Handler}(h:(bf.ty 157).rd F w cs d):I.Gy.rd F w cs d:=by change fC (λ t=>(gf PA t).ty) F w [.i .i64,.i .i64,.i .i64,.s] cs (d.From,d.To,d.At,d.al,())at h;obtain⟨_,_,rfl,rfl,_,_,rfl,rfl,_,_,rfl,rfl,_,_,rfl,rfl,rfl⟩:=h;rfl
theorem awb{cs:List Value}{d:I.Field}(h:(bf.ty 136).rd F w cs d):I.kz.rd F w cs d:=by change fC (λ t=>(gf K2 t).ty) F w [.s,.i .i64,.s] cs (d.Name,d.Kind.Kind,d.Kind.al,())at h;obtain⟨_,_,rfl,rfl,_,_,rfl,rfl,_,_,rfl,rfl,rfl⟩:=h;rfl
theorem awe{cs:List Value}{d:I.Method}(h:(bf.ty 131).rd F w cs d):I.sZ.rd F w cs d:=by change fC (λ t=>(gf PD t).ty) F w [.s,.b,.l 128,.i .i64,.s,.i .i64,.i .i64,.s,.l 157] cs (d.Name,d.Static,d.cD,d.Returns.Kind,d.Returns.al,d.iO,d.iL,d.Code,d.cL,())at h;obtain⟨_,_,rfl,rfl,_,_,rfl,rfl,_,_,rfl,a,_,_,rfl,rfl,_,_,rfl,rfl,_,_,rfl,rfl,_,_,rfl,rfl,_,_,rfl,rfl,_,_,rfl,J,rfl⟩:=h;have a:(b2 (bf.ty 128)).rd F w [_] d.cD:=a;have J:(b2 (bf.ty 157)).rd F w [_] d.cL:=J;obtain⟨A,c,rfl⟩:=mB _ a;obtain⟨ck,b,rfl⟩:=mB _ J;exact⟨A,c,ck,b,rfl,jC (λ _ _=>awd) a,jC (λ _ _=>awc) J⟩
theorem awa{cs:List Value}{d:I.al}(h:(bf.ty 134).rd F w cs d):I.lU.rd F w cs d:=by change fC (λ t=>(gf PB t).ty) F w [.s,.s,.l 136,.l 131] cs (d.Name,d.dg,d.Fields,d.bn,())at h;obtain⟨_,_,rfl,rfl,_,_,rfl,rfl,_,_,rfl,a,_,_,rfl,J,rfl⟩:=h;have a:(b2 (bf.ty 136)).rd F w [_] d.Fields:=a;have J:(b2 (bf.ty 131)).rd F w [_] d.bn:=J;obtain⟨A,c,rfl⟩:=mB _ a;obtain⟨ck,b,rfl⟩:=mB _ J;exact⟨A,c,ck,b,rfl,jC (λ _ _=>awb) a,jC (λ _ _=>awe) J⟩
theorem O8{cs:List Value}{d:Int}(h:(bf.ty 3).rd F w cs d):cs=[.int .i64 d]:=by change fC (λ t=>(gf EP t).ty) F w [.i .i64] cs (d,())at h;obtain⟨_,_,rfl,rfl,rfl⟩:=h;rfl
theorem aJv{F':Nat->Prop}{cs:List Value}{d:I.Field}(h:I.kz.rd F w cs d):(bf.ty 136).rd F' w cs d:=by change cs=_ at h;subst h;change fC (λ t=>(gf K2 t).ty) F' w [.s,.i .i64,.s] _ (d.Name,d.Kind.Kind,d.Kind.al,());exact⟨_,_,rfl,rfl,_,_,rfl,rfl,_,_,rfl,rfl,rfl⟩
theorem aJx{F':Nat->Prop}{cs:List Value}{d:I.Target}(h:I.lV.rd F w cs d):(bf.ty 166).rd F' w cs d:=by change cs=_ at h;subst h;change fC (λ t=>(gf PE t).ty) F' w [.i .i64,.i .i64] _ (d.al,d.Method,());exact⟨_,_,rfl,rfl,_,_,rfl,rfl,rfl⟩
theorem aJw{F':Nat->Prop}{cs:List Value}{d:List UInt8}(h:ky.rd F w cs d):(bf.ty 9).rd F' w cs d:=by change cs=_ at h;subst h;change fC (λ t=>(gf PF t).ty) F' w [.s] _ (d,());exact⟨_,_,rfl,rfl,rfl⟩
theorem ayJ{es:List MapEntry}{d:List (List UInt8×Int)}(h: @kR bf F w 9 3 Mq es d):UF o3 (Value.int .i64) es d:=by
 induction es generalizing d with
 |nil=>cases d with
  |nil=>rfl
  |cons p d=>exact h.elim
 |cons e es a=>cases d with
  |nil=>exact h.elim
  |cons p d=>obtain⟨b,⟨xs,J,c⟩,f⟩:=h;have J:=O8 J;subst J;have:=a f;unfold UF at this⊢;rw[ea,ea,this];rw[show e.val= .int .i64 p.2 from c,show e.key=o3.enc p.1 from b]
abbrev Ca(cs:List I.al)(bZ:List (List UInt8×Int))(kx:List Int):List (aG bf.El):=[.c 117 [.s 134 (cs:List (bf.El 134)),.m 1,.s 3 (kx:List (bf.El 3))],.m 9 3 (bZ:List (bf.El 9×bf.El 3))]
theorem akR{W:World}{M0:List Nat}{X:Nat->Prop}{ρ vs:List Value}{cs:List I.al}{bZ:List (List UInt8×Int)}{kx:List Int}{n:Int}
 (d:Mem bf W M0 X (Ca cs bZ kx) ρ w)(l:aZ bf (bi X (Ca cs bZ kx) ρ w) w ρ (Ca cs bZ kx) [.b 0 0,.p (.int .i64 n)] vs) :
 ∃g A c r ck a,vs=[.pointer (some ⟨g,0,none⟩),.int .i64 n]/\bu w [] [] w [] [bA.kf g [.slice A cs.length c,.map (some r),.slice ck kx.length a],cj I.lU A c cs,bA.map o3 (Value.int .i64) r bZ,cj (dE .i64) ck a kx]:=by
 have H:=d.len
 obtain⟨J,m⟩:=d.ux (i:=0) rfl
 obtain⟨L,o⟩:=d.ux (i:=1) rfl
 have b0:=d.ok 0 _ _ rfl m
 have C:=d.ok 1 _ _ rfl o
 obtain⟨g,us,rfl,p,q⟩:=b0
 obtain⟨r,rfl,K,D,es,cl,s,E,G,ag⟩:=C
 simp only[aZ,av]at q l
 obtain⟨u1,_,rfl,u,u2,_,rfl,⟨M,v,rfl⟩,u3,_,rfl,e,rfl⟩:=q
 obtain⟨_,_,rfl,⟨g',x,rfl⟩,_,_,rfl,rfl,rfl⟩:=l
 rw[m]at x
 rw[o]at v
 cases x
 cases v
 obtain⟨A,c,rfl⟩:=mB _ u
 obtain⟨ck,a,rfl⟩:=mB _ e
 have z:∀k,bi X (Ca cs bZ kx) ρ w k->jb [] w k/\w.heap[k]? =w.heap[k]? :=λ k f=>⟨⟨by simp,f.2.2⟩,rfl⟩
 have Yu:(cj I.lU A c cs).ok [] w:=jC (λ _ _=>awa) ((b2 (bf.ty 134)).law z u)
 have j:(cj (dE .i64) ck a kx).ok [] w:=jC (λ _ _=>O8) ((b2 (bf.ty 3)).law z e)
 have B:∀k b,w.heap[k]? =some b->k<w.heap.size:=λ k b f=>by rcases fO k w.heap.size with h |h;exact h;rw[hG h]at f;cases f
 obtain rfl:Mq=K:=ee D
 refine⟨g,A,c,r,ck,a,rfl,bu.start [] [] w [] _ (by simp) (by simp[bT]) (by simp) (by simp[bT]) λ y hy=>?_⟩
 simp only[cG,hI,or_false]at hy
 rcases hy with rfl |rfl |rfl |rfl
 ·exact⟨by simp[bT],B _ _ p,kc (t:=117) (cs:=[.slice A cs.length c,.map (some r),.slice ck kx.length a]) p⟩
 ·exact Yu
 ·exact⟨by simp[bT],B _ _ s,es,cl,s,ayJ E,G,ag⟩
 ·exact j
end
theorem axz(F:Nat):(akb F).iu.AA aE 83:=by intro da db fc h W M0 X ρ w vs a d;obtain⟨⟨⟩,n,⟨⟩⟩:=da;obtain⟨⟨cs,⟨⟩,kx,⟨⟩⟩,bZ,⟨⟩⟩:=db;have h:dL _ (I.wE F ⟨cs,bZ,kx⟩ n)=some fc:=h;obtain⟨r,f,rfl⟩:=cF.1 h;have a:Mem bf W M0 X (Ca cs bZ kx) ρ w:=a;obtain⟨g,A,c,q,ck,p,rfl,aj⟩:=akR a d;refine⟨⟨.ret (.r 2 0),Ca cs bZ kx++[.r 136 0 0 (r:List (bf.El 136))],[]⟩,by kernel_rfl,?_⟩;refine(awF aj f).mono λ e w' ⟨s,c1,xs,i,b⟩=>?_;obtain⟨j,l⟩:=a.st1 b (t:=136) rfl λ _ _ _ ad _=>aJv ad;refine⟨_,j,l,λ k m _=>b.bU.block k m (by simp),?_⟩;subst i;have o:ρ.length=2:=a.len;exact⟨trivial,_,by rw[eA (by omega),o];rfl,cP _,λ _=>rfl⟩
theorem axA(F:Nat):(akc F).iu.AA aE 82:=by intro da db fc h W M0 X ρ w vs a f;obtain⟨⟨⟩,n,⟨⟩⟩:=da;obtain⟨⟨cs,⟨⟩,kx,⟨⟩⟩,bZ,⟨⟩⟩:=db;have h:dL _ (I.F4 F ⟨cs,bZ,kx⟩ n)=some fc:=h;obtain⟨r,i,rfl⟩:=cF.1 h;have a:Mem bf W M0 X (Ca cs bZ kx) ρ w:=a;obtain⟨g,A,c,q,ck,p,rfl,aj⟩:=akR a f;refine⟨⟨.ret (.u [.r 2 0,.r 3 0]),Ca cs bZ kx++[.r 9 0 0 (r.1 :List (bf.El 9)),.r 166 0 0 (r.2 :List (bf.El 166))],[]⟩,by kernel_rfl,?_⟩;refine(awG aj i).mono λ e w' ⟨s,c1,xs,u,c2,ys,j,b⟩=>?_;obtain⟨l,m⟩:=a.st2 b (t:=9) (t':=166) rfl (λ _ _ _ ad _=>aJw ad) rfl λ _ _ _ ad _=>aJx ad;refine⟨_,l,m,λ k o _=>b.bU.block k o (by simp),?_⟩;subst j;have d:ρ.length=2:=a.len;refine⟨_,rfl,_,_,rfl,⟨trivial,_,by rw[eA (by omega),d];rfl,cP _,λ _=>rfl⟩,_,_,rfl,⟨trivial,_,by rw[eA (by omega),d];rfl,cP _,λ _=>rfl⟩,rfl⟩
theorem av4:j9.Ok:=⟨⟨λ g h e=>(by cases e),λ g h e=>(by cases e)⟩,λ g fn c _ _ _=>wC (λ _=>rfl) c⟩
theorem awt(F:Nat):(OL F).Ok:=((aHb kY (aHa kY (aG' kY (aG_ kY (aG9 kY av4))))).qM (f:=82) (by kernel_rfl) λ ys bl r a=>KU (axA F) ys bl r (zN a)).qM (f:=83) (by kernel_rfl) λ ys bl r a=>KU (axz F) ys bl r (zN a)
end Go.Proofs.YteeliipnilghaaaGreat
namespace a7
open Go Go.RowKit aw I
section
variable{El:Nat->Type}
def O7(bl:List (aG El)):aL El->Option (aL El)
 | .p u=>some (.p u)
 | .s t l=>some (.s t l)
 | .q t l=>some (.s t l)
 | .r i g=>match nth bl i with
   |some (.r t a _ l)=>match cx g a with
    |true=>some (.s t l)
    |false=>none
   |_=>none
 |_=>none
def KP(bl:List (aG El)):List (aL El)->Option (List (aL El))
 |[]=>some []
 |y::r=>match O7 bl y,KP bl r with
  |some fl,some a=>some (fl::a)
  |_,_=>none
def U6(bl:List (aG El)):aL El->Option (aL El)
 | .a cs=>(KP bl cs).map .a
 |y=>O7 bl y
def KQ(bl:List (aG El)):List (aL El)->Option (List (aL El))
 |[]=>some []
 |y::r=>match U6 bl y,KQ bl r with
  |some fl,some a=>some (fl::a)
  |_,_=>none
def ajZ:List (aL El)->Bool
 |[]=>false
 | .r _ _::_=>true
 |_::r=>ajZ r
def YV:List (aL El)->Bool
 |[]=>false
 | .r _ _::_=>true
 | .a cs::r=>ajZ cs||YV r
 |_::r=>YV r
def U7(g:List (aL El)->List (aG El)->D (fS El))(ys:List (aL El))(bl:List (aG El)):D (fS El):=match YV ys,KQ bl ys with
 |true,some a=>(g a []).bind λ r=>match r.e with
  | .ret (.p u)=>.ok ⟨.ret (.p u),bl,[]⟩
  |_=>.no
 |_,_=>g ys bl
end
section
variable{T:bQ}{W w:World}{M0:List Nat}{X:Nat->Prop}{bl:List (aG T.El)}{ρ:List Value}
theorem afI(f:Mem T W M0 X bl ρ w){y fl:aL T.El}{v:Value}(h:O7 bl y=some fl)(a:av T (bi X bl ρ w) w ρ bl y v):av T (bi (λ _=>False) ([]:List (aG T.El)) [] w) w [] [] fl v:=by
 have c:∀ {b:List (aG T.El)}{k:Nat},bi X b ρ w k->bi (λ _=>False) ([]:List (aG T.El)) [] w k/\w.heap[k]? =w.heap[k]? :=λ j=>⟨⟨λ h=>h,λ⟨i,B,u,d,J,_⟩=>by simp at J,j.2.2⟩,rfl⟩
 unfold O7 at h;split at h;cases h;simp only[av]at a⊢;exact a;cases h;simp only[av]at a⊢;exact(b2 _).law (λ k=>c) a;cases h;simp only[av]at a⊢;exact(b2 _).law (λ k=>c) a.1;rename_i i g;split at h;rename_i t m k l hi;rw[dn]at hi;split at h;rename_i ag;have ag:=bF ag;cases h;simp only[av]at a⊢;obtain⟨_,u,d,_,e⟩:=a;rw[hi]at e;obtain rfl:=e ag;have n:=(f.freeze hi).1.ok i (.z t m k l) _ (fE (ba.1 hi).1) d;exact(b2 (T.ty t)).law (λ k=>c) (n:(b2 (T.ty t)).rd _ w [_] l);cases h;cases h;cases h
theorem afJ(c:Mem T W M0 X bl ρ w):∀ {ys a:List (aL T.El)}{vs:List Value},KP bl ys=some a->aZ T (bi X bl ρ w) w ρ bl ys vs->aZ T (bi (λ _=>False) ([]:List (aG T.El)) [] w) w [] [] a vs
 |[],a,vs,h,b=>by simp only[KP,aM]at h;subst h;simpa only[aZ]using b
 |y::r,a,vs,h,b=>by simp only[KP]at h;split at h;rename_i i j d J;cases h;simp only[aZ]at b⊢;obtain⟨u,us,e,f,g⟩:=b;exact⟨u,us,e,afI c d f,afJ c J g⟩;cases h
theorem av'(b:Mem T W M0 X bl ρ w){y fl:aL T.El}{v:Value}(h:U6 bl y=some fl)(a:av T (bi X bl ρ w) w ρ bl y v):av T (bi (λ _=>False) ([]:List (aG T.El)) [] w) w [] [] fl v:=by unfold U6 at h;split at h;rename_i cs;obtain⟨d,c,rfl⟩:=cF.1 h;simp only[av]at a⊢;obtain⟨vs,e,a⟩:=a;exact⟨vs,e,afJ b c a⟩;exact afI b h a
theorem afK(c:Mem T W M0 X bl ρ w):∀ {ys a:List (aL T.El)}{vs:List Value},KQ bl ys=some a->aZ T (bi X bl ρ w) w ρ bl ys vs->aZ T (bi (λ _=>False) ([]:List (aG T.El)) [] w) w [] [] a vs
 |[],a,vs,h,b=>by simp only[KQ,aM]at h;subst h;simpa only[aZ]using b
 |y::r,a,vs,h,b=>by simp only[KQ]at h;split at h;rename_i i j d J;cases h;simp only[aZ]at b⊢;obtain⟨u,us,e,f,g⟩:=b;exact⟨u,us,e,av' c d f,afK c J g⟩;cases h
end
section
variable{E:Env}{f:Nat}{t:cX E}
theorem awZ(l:E.cZ=[]){g:List (aL E.T.El)->List (aG E.T.El)->D (fS E.T.El)}(hc:kQ E f g):kQ E f (U7 g):=by
 intro ys bl r c W M0 X ρ w vs h d j;unfold U7 at c;split at c
 ·rename_i m _ ag;obtain⟨n,o,a⟩:=D.la c;split at a
  ·rename_i u p;have a:(⟨.ret (.p u),bl,[]⟩:fS E.T.El)=r:=a;subst a;refine(hc m [] n o w [] (λ _=>False) [] w vs (ak3 w) (λ g y d=>by rw[l]at d;simp[cH]at d) (afK h ag j)).mono λ e w' ⟨ρ',i,_,_,b⟩=>?_;refine⟨ρ,h.fo i.bU,Mem.u' i.bU,λ k q _=>i.bU.block k q (by simp),?_⟩;rw[p]at b;cases e with
   |returned v=>simp only[AZ,av]at b⊢;exact b
   |panicked Ba=>exact b.elim
   |outgrown=>exact b.elim
  ·exact a.elim
 ·exact hc ys bl r c W M0 X ρ w vs h d j
def cX.tT(t:cX E)(f:Nat):cX E:=t.f f (U7 (t.bw f))
theorem cX.Ok.tT(a1:dr E)(a:E.cZ=[])(h:t.Ok){f:Nat}(b:fJ E.cm f=true):(t.tT f).Ok:=h.qM b (awZ a λ ys bl r c=>((m' a1 h.ce h.le 100).ok f ys bl r c).2)
end
structure aS (E:Env) where
 t:cX E
 ok:dr E->t.Ok
 cZ:E.cZ=[]
section
variable{E:Env}
def aS.rt(s:aS E)(f:Nat)(c:iN E.T)(a:c.Eq E s.t.bw s.t.LE f)(b:fJ E.cm f=true:=by kernel_rfl):aS E:=⟨s.t.f f (c.run E),λ h=>(s.ok h).rt h s.cZ b a,s.cZ⟩
def aS.yj(s:aS E)(f:Nat)(c:iN E.T)(a:c.Eq E s.t.bw s.t.LE f)(b:fJ E.cm f=true:=by kernel_rfl):aS E:=⟨s.t.yj f c,λ h=>(s.ok h).azI h s.cZ b a,s.cZ⟩
def aS.Sx(s:aS E)(f:Nat)(c:tF E.T)(a:c.Eq E s.t.bw s.t.LE f)(b:fJ E.cm f=true:=by kernel_rfl):aS E:=⟨s.t.f f (c.run E),λ h=>(s.ok h).Sx h s.cZ b a,s.cZ⟩
def aS.fn(s:aS E)(f:Nat)(c:er E.T)(a:c.Eq E s.t.bw s.t.LE f)(b:fJ E.cm f=true:=by kernel_rfl):aS E:=⟨s.t.f f (c.run E),λ h=>(s.ok h).fn h s.cZ b a,s.cZ⟩
def aS.jN(s:aS E)(f:Nat)(c:l_ E.T)(a:c.Eq E s.t.bw s.t.LE f)(b:fJ E.cm f=true:=by kernel_rfl):aS E:=⟨s.t.f f (c.run E),λ h=>(s.ok h).jN h s.cZ b a,s.cZ⟩
def aS.H7(s:aS E)(f:Nat)(c:er E.T)(a:c.Eq E s.t.bw s.t.LE f)(b:fJ E.cm f=true:=by kernel_rfl):aS E:=⟨s.t.H7 f c,λ h=>(s.ok h).azD h s.cZ b a,s.cZ⟩
def aS.tT(s:aS E)(f:Nat)(a:fJ E.cm f=true:=by kernel_rfl):aS E:=⟨s.t.tT f,λ h=>(s.ok h).tT h s.cZ a,s.cZ⟩
def aS.add(s:aS E)(f:Nat)(r:List (aL E.T.El)->List (aG E.T.El)->D (fS E.T.El))(hc:kQ E f r)(a:fJ E.cm f=true:=by kernel_rfl):aS E:=⟨s.t.f f r,λ h=>(s.ok h).qM a hc,s.cZ⟩
def aS.al3(s:aS E)(g i:Nat)(r:fg E.T.El->D (b9 E.T.El))(x y:Code)(a:dr E->g∈E.cm->AD E ⟨fW E.P g,[]⟩ r x y)(b:Gm E.P g i=some (x,y):=by kernel_rfl):aS E:=⟨s.t.l g (1000000+i) r,λ h=>(s.ok h).avZ b (a h),s.cZ⟩
def aS.bW(s:aS E)(g i F:Nat)(c:bM E.T)(a:c.wB.pG E s.t.bw (s.t.LE g) (fW E.P g) i (io E.P g i))(b:qg E.P g i=true:=by kernel_rfl):aS E:=⟨s.t.l g i (c.run E F),λ h=>(s.ok h).bW h s.cZ b a F,s.cZ⟩
def aS.ME(s:aS E)(g i F:Nat)(c:bM E.T)(a:c.wB.pG E s.t.bw (s.t.LE g) (fW E.P g) i (io E.P g i))(b:qg E.P g i=true:=by kernel_rfl):aS E:=⟨s.t.ME g i c F,λ h=>(s.ok h).aFL h s.cZ b a F,s.cZ⟩
def aS.gm(s:aS E)(g i F:Nat)(c:f' E.T)(a:c.Eq E s.t.bw (s.t.LE g) (fW E.P g) i (io E.P g i))(b:qg E.P g i=true:=by kernel_rfl):aS E:=⟨s.t.l g i (c.run E F),λ h=>(s.ok h).gm h s.cZ b a F,s.cZ⟩
def aS.Q6(s:aS E)(g i F:Nat)(c:f' E.T)(a:c.Eq E s.t.bw (s.t.LE g) (fW E.P g) i (io E.P g i))(b:qg E.P g i=true:=by kernel_rfl):aS E:=⟨s.t.Q6 g i c F,λ h=>(s.ok h).aFK h s.cZ b a F,s.cZ⟩
end
end a7
