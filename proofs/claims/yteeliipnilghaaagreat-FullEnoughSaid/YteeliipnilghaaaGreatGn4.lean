/- Part 4 of the proof that is ended in the last text: small logic, what the functions compute, walks, plain laws. -/
import Derived.Test.YteeliipnilghaaaGreatGn3
import Derived.Test.YteeliipnilghaaaGreatChecked
import Derived.KernelRfl
open Array renaming getElem?_eq_none->h6
open Bool renaming and_eq_true->cd,not_eq_true'->hh
open List renaming cons.injEq->hU,flatMap_cons->h7,getElem?_append_right->eS,getElem?_eq_some_iff->aR,getElem?_set_self->gu,length->h8,length_reverse->lE,map_cons->ez,mem_append_left->e8,mem_cons->cH,mem_flatMap->hN,mem_singleton->dV,nodup_append->fx,not_mem_nil->io,range->ef
open Nat renaming beq->cj,decEq->lL,eq_of_beq_eq_true->bd,le_refl->cP,le_trans->hl,lt_or_ge->gI
open Option renaming bind->ej,map->eh,map_eq_some_iff->cA,some.inj->eD,some.injEq->aF
noncomputable section
namespace ba
open Go Go.RowKit ay I
structure iB (T:bU) where
 pas:List cM
 pbs:List bK
 eJ:List cM
 du:List bK
 R:Type
 fn:dw T.El pas×cK T.El pbs->Option R
 oM:dw T.El pas×cK T.El pbs->R->dw T.El eJ×cK T.El du
def iB.ic{T:bU}(c:iB T):eA T:=⟨c.pas,c.pbs,c.eJ,c.du,λ d=>(c.fn d).map (c.oM d)⟩
def iB.run(E:Env)(c:iB E.T)(ys:List (aL E.T.El))(bl:List (aH E.T.El)):D (fE E.T.El):=match gW [] c.pas c.pbs bl ys with
 |(bO,a)=>match ky c.pbs c.du,iQ bO [] false c.pas c.pbs a with
  |true,some (d,sel)=>.op (c.fn d) λ r=>.ok ⟨.ret (rU (gG (jq sel bO.length) (fH bO sel c.du) c.eJ (c.oM d r).1)),gJ bO sel c.du (c.oM d r).2,sel⟩
  |_,_=>.no
def iB.awc{T:bU}(c:iB T)(d:dw T.El c.pas×cK T.El c.pbs)(r:c.R):dw T.El c.eJ×cK T.El c.du:=c.oM d r
def iB.Eq(E:Env)(bw:fz E)(LE:lP E)(f:Nat)(c:iB E.T):Prop:=∀(da:dw E.T.El c.pas)(db:cK E.T.El c.pbs),(oV E bw LE f (gG id (ck false c.pbs) c.pas da) (bQ id (ck false c.pbs) false c.pbs db)).run c.ic.fin=(c.fn (da,db)).map (c.awc (da,db))
structure gV (T:bU) (pas:List cM) (pbs:List bK) where
 w:kK
 R:Type
 oM:dw T.El pas×cK T.El pbs->R->zb T.El w
@[reducible] def Ja{T:bU}{pas:List cM}{pbs:List bK}:List (gV T pas pbs)->Type
  |[]=>Empty
  |[w]=>w.R
  |w::v::r=>w.R⊕Ja (v::r)
@[reducible] def Ip{T:bU}{pas:List cM}{pbs:List bK}:List (gV T pas pbs)->List kK
  |[]=>[]
  |w::r=>w.w::Ip r
def bW{T:bU}{pas:List cM}{pbs:List bK}(d:dw T.El pas×cK T.El pbs):(ws:List (gV T pas pbs))->Ja ws->zc T.El (Ip ws)
 |[],r=>r.elim
 |[w],r=>w.oM d r
 |w::v::ws,r=>match r with
  | .inl a=>.inl (w.oM d a)
  | .inr b=>.inr (bW d (v::ws) b)
structure bP (T:bU) where
 ss:List Nat
 pas:List cM
 pbs:List bK
 ws:List (gV T pas pbs)
 fn:Nat->dw T.El pas×cK T.El pbs->Option (Ja ws)
def bP.vp{T:bU}(c:bP T):fO T:=⟨c.ss,c.pas,c.pbs,Ip c.ws,λ k d=>(c.fn k d).map λ r=>bW d c.ws r⟩
def Zv(E:Env){pas:List cM}{pbs:List bK}(bl:List (aH E.T.El))(sel us:List Nat)(d:dw E.T.El pas×cK E.T.El pbs):(ws:List (gV E.T pas pbs))->Option (Ja ws)->D (ca E.T.El)
 |[],_=>.no
 |[w],o=>.op o λ r=>QN E bl sel us w.w (w.oM d r)
 |w::v::ws,o=>.vT o (λ r=>QN E bl sel us w.w (w.oM d r)) (λ q=>Zv E bl sel us d (v::ws) (some q))
def bP.run(E:Env)(F:Nat)(c:bP E.T)(s:eU E.T.El):D (ca E.T.El):=match qm E s.bl s.f [] (c.ss.map .tmp)with
 |some ys=>match gW [] c.pas c.pbs s.bl ys with
  |(bO,a)=>match HH c.pbs (Ip c.ws)&&(ky c.pbs c.pbs&&tJ c.pbs c.pbs),iQ bO [] false c.pas c.pbs a with
   |true,some (d,sel)=>Zv E bO sel s.ws d c.ws (c.fn F d)
   |_,_=>.no
 |none=>.no
def cW.w6{E:Env}(t:cW E)(g:Nat)(c:iB E.T):cW E:=t.f g λ ys bl=>match c.ic.fit E ys bl with
 |true=>c.run E ys bl
 |false=>t.bw g ys bl
def cW.Lf{E:Env}(t:cW E)(g i:Nat)(c:bP E.T)(F:Nat):cW E:=t.l g i λ s=>match c.vp.fit E s with
 |true=>c.run E F s
 |false=>match t.LE g i with
  |some h=>h s
  |none=>.no
structure Gc (T:bU) (pas:List cM) (pbs:List bK) where
 w:nw
 R:Type
 oM:dw T.El pas×cK T.El pbs->R->FZ T.El w
@[reducible] def I'{T:bU}{pas:List cM}{pbs:List bK}:List (Gc T pas pbs)->Type
  |[]=>Empty
  |[w]=>w.R
  |w::v::r=>w.R⊕I' (v::r)
@[reducible] def L0{T:bU}{pas:List cM}{pbs:List bK}:List (Gc T pas pbs)->List nw
  |[]=>[]
  |w::r=>w.w::L0 r
def Gv{T:bU}{pas:List cM}{pbs:List bK}(d:dw T.El pas×cK T.El pbs):(ws:List (Gc T pas pbs))->I' ws->za T.El (L0 ws)
 |[],r=>r.elim
 |[w],r=>w.oM d r
 |w::v::ws,r=>match r with
  | .inl a=>.inl (w.oM d a)
  | .inr b=>.inr (Gv d (v::ws) b)
structure sD (T:bU) where
 pas:List cM
 pbs:List bK
 ws:List (Gc T pas pbs)
 fn:dw T.El pas×cK T.El pbs->Option (I' ws)
def sD.jg{T:bU}(c:sD T):lc T:=⟨c.pas,c.pbs,L0 c.ws,λ d=>(c.fn d).map λ r=>Gv d c.ws r⟩
def aaT(E:Env){pas:List cM}{pbs:List bK}(bl:List (aH E.T.El))(sel:List Nat)(d:dw E.T.El pas×cK E.T.El pbs):(ws:List (Gc E.T pas pbs))->Option (I' ws)->D (fE E.T.El)
 |[],_=>.no
 |[w],o=>.op o λ r=>LW E bl sel w.w (w.oM d r)
 |w::v::ws,o=>.vT o (λ r=>LW E bl sel w.w (w.oM d r)) (λ q=>aaT E bl sel d (v::ws) (some q))
def sD.run(E:Env)(c:sD E.T)(ys:List (aL E.T.El))(bl:List (aH E.T.El)):D (fE E.T.El):=match gW [] c.pas c.pbs bl ys with
 |(bO,a)=>match Lu c.pbs (L0 c.ws),iQ bO [] false c.pas c.pbs a with
  |true,some (d,sel)=>aaT E bO sel d c.ws (c.fn d)
  |_,_=>.no
def sD.Eq(E:Env)(bw:fz E)(LE:lP E)(f:Nat)(c:sD E.T):Prop:=∀(da:dw E.T.El c.pas)(db:cK E.T.El c.pbs),(oV E bw LE f (gG id (ck false c.pbs) c.pas da) (bQ id (ck false c.pbs) false c.pbs db)).run c.jg.fin=(c.fn (da,db)).map λ r=>Gv (da,db) c.ws r
def mZ(T:bU)(t b4:Nat):iB T:=⟨[.p (.l t)],[],[.p (.R 0)],[.r t false],List (T.El t),λ d=>bI b4 [] d.1.1,λ _ r=>(((),()),(r,()))⟩
section
variable{E:Env}{t:cW E}
theorem Bu{c:iB E.T}{ys:List (aL E.T.El)}{bl:List (aH E.T.El)}{r:fE E.T.El}(h:(c.run E ys bl).out r):(c.ic.run E ys bl).out r:=by
 unfold iB.run at h;unfold eA.run iB.ic;dsimp only;cases ad:gW [] c.pas c.pbs bl ys with
 |mk bO d=>
 rw[ad]at h;dsimp only at h⊢;split at h;rename_i a J;rw[a,J];obtain⟨q,b,ao⟩:=h;exact⟨_,by rw[b];rfl,ao⟩;exact h.elim
theorem alo{pas:List cM}{pbs:List bK}{bl:List (aH E.T.El)}{sel us:List Nat}{d:dw E.T.El pas×cK E.T.El pbs}:∀ {ws:List (gV E.T pas pbs)}{o:Option (Ja ws)}{r:ca E.T.El},(Zv E bl sel us d ws o).out r->(HW E bl sel us (Ip ws) (o.map (bW d ws))).out r
 |[],o,r,h=>h.elim
 |[w],o,r,h=>by obtain⟨q,a,ao⟩:=h;exact⟨_,by rw[a];rfl,ao⟩
 |w::v::ws,o,r,h=>by rcases h with⟨q,a,ao⟩|⟨q,a,ao⟩;exact .inl ⟨_,by rw[a];rfl,ao⟩;exact .inr ⟨_,by rw[a];rfl,alo ao⟩
theorem ajU{c:bP E.T}{F:Nat}{s:eU E.T.El}{r:ca E.T.El}(h:(c.run E F s).out r):(c.vp.run E F s).out r:=by
 unfold bP.run at h;unfold fO.run bP.vp;dsimp only at h⊢;cases hy:qm E s.bl s.f [] (c.ss.map .tmp)with
 |none=>rw[hy]at h;exact h.elim
 |some ys=>
  rw[hy]at h;dsimp only at h⊢;cases ad:gW [] c.pas c.pbs s.bl ys with
  |mk bO b=>
  rw[ad]at h;dsimp only at h⊢;cases a:HH c.pbs (Ip c.ws)&&(ky c.pbs c.pbs&&tJ c.pbs c.pbs)with
  |false=>rw[a]at h;exact h.elim
  |true=>
   cases J:iQ bO [] false c.pas c.pbs b with
   |none=>rw[a,J]at h;exact h.elim
   |some ds=>rw[a,J]at h;exact alo h
theorem al8{pas:List cM}{pbs:List bK}{bl:List (aH E.T.El)}{sel:List Nat}{d:dw E.T.El pas×cK E.T.El pbs}:∀ {ws:List (Gc E.T pas pbs)}{o:Option (I' ws)}{r:fE E.T.El},(aaT E bl sel d ws o).out r->(H4 E bl sel (L0 ws) (o.map λ r=>Gv d ws r)).out r
 |[],o,r,h=>h.elim
 |[w],o,r,h=>by obtain⟨q,a,ao⟩:=h;exact⟨_,by rw[a];rfl,ao⟩
 |w::v::ws,o,r,h=>by rcases h with⟨q,a,ao⟩|⟨q,a,ao⟩;exact .inl ⟨_,by rw[a];rfl,ao⟩;exact .inr ⟨_,by rw[a];rfl,al8 ao⟩
theorem aJl{c:sD E.T}{ys:List (aL E.T.El)}{bl:List (aH E.T.El)}{r:fE E.T.El}(h:(c.run E ys bl).out r):(c.jg.run E ys bl).out r:=by
 unfold sD.run at h;unfold lc.run sD.jg;dsimp only;cases ad:gW [] c.pas c.pbs bl ys with
 |mk bO b=>
 rw[ad]at h;dsimp only at h⊢;split at h;rename_i a J;rw[a,J];exact al8 h;exact h.elim
theorem cW.Ok.Rb(a8:dl E)(a:E.cY=[])(h:t.Ok){f:Nat}(ad:fp E.cm f=true){c:sD E.T}(b:c.Eq E t.bw t.LE f):(t.f f (c.run E)).Ok:=h.pT ad λ ys bl r d=>afg a8 (lV a8 h.ce h.le 100) h.le a (c:=c.jg) (λ da db _ e=>(b da db).trans e) ys bl r (aJl d)
theorem cW.Ok.rt(a8:dl E)(a:E.cY=[])(h:t.Ok){f:Nat}(ad:fp E.cm f=true){c:iB E.T}(b:c.Eq E t.bw t.LE f):(t.f f (c.run E)).Ok:=h.pT ad λ ys bl r d=>Gt a8 (lV a8 h.ce h.le 100) h.le a (c:=c.ic) (eA.Eq.v b) ys bl r (Bu d)
theorem cW.Ok.b2(a8:dl E)(b:E.cY=[])(h:t.Ok){g i:Nat}(a:ph E.P g i=true){c:bP E.T}(d:c.vp.oF E t.bw (t.LE g) (fJ E.P g) i (hT E.P g i))(F:Nat):(t.l g i (c.run E F)).Ok:=h.Ns a8 a λ e s r f=>h.OG a8 b a d F e s r (ajU f)
theorem cW.Ok.ayw(a8:dl E)(b:E.cY=[])(h:t.Ok){f:Nat}(ad:fp E.cm f=true){c:iB E.T}(d:c.Eq E t.bw t.LE f):(t.w6 f c).Ok:=by refine h.pT ad λ ys bl r a=>?_;split at a;exact Gt a8 (lV a8 h.ce h.le 100) h.le b (c:=c.ic) (eA.Eq.v d) ys bl r (Bu a);exact((lV a8 h.ce h.le 100).ok f ys bl r a).2
theorem cW.Ok.aEH(a8:dl E)(k:E.cY=[])(h:t.Ok){g i:Nat}(a:ph E.P g i=true){c:bP E.T}(l:c.vp.oF E t.bw (t.LE g) (fJ E.P g) i (hT E.P g i))(F:Nat):(t.Lf g i c F).Ok:=by
 refine h.Ns a8 a λ f s r d=>?_;split at d;exact h.OG a8 k a l F f s r (ajU d)
 ·split at d
  ·rename_i q m;have u:=a;unfold ph at a;split at a
   ·rename_i b ag;have Kd:hT E.P g i=b:=by unfold hT;rw[ag]
    rw[Kd];unfold rh at ag;split at ag
    ·rename_i fn j;split at ag
     ·rename_i n o;have e:=h.le g fn n f j o;have p:fJ E.P g=fn.ntmps:=by unfold fJ;rw[j]
      rw[p];exact x3 m e ag s r d
     ·simp[fG]at ag
    ·simp[fG]at ag
   ·cases a
  ·exact d.elim
theorem cW.Ok.LN(a8:dl E)(m:E.cY=[])(h:t.Ok){f b b4:Nat}(ad:fp E.cm f=true)
 (n:(oV E t.bw t.LE f [.p (.slice none 0 0)] []).run (mZ E.T b b4).ic.fin=some (((),()),([],())))
 (o:∀(a:Addr)(c:Nat),(oV E t.bw t.LE f [.p (.slice (some a) 0 c)] []).run (mZ E.T b b4).ic.fin=some (((),()),([],())))
 (J:∀(d:E.T.El b)(l:List (E.T.El b)),(oV E t.bw t.LE f [.s b (d::l)] []).run (mZ E.T b b4).ic.fin=(bI b4 [] (d::l)).bind λ r=>some (((),()),(r,()))):(t.f f ((mZ E.T b b4).run E)).Ok:=by
 refine h.pT ad λ ys bl r p=>Gt a8 (lV a8 h.ce h.le 100) h.le m (c:=(mZ E.T b b4).ic) (λ da db F w ρ bl vs j=>?_) ys bl r (Bu p)
 obtain⟨l,⟨⟩⟩:=da
 have q:bI b4 ([]:List (E.T.El b)) []=some []:=by simp[bI]
 have k:∀l:List (E.T.El b),(mZ E.T b b4).ic.fn ((l,()),db)=(bI b4 [] l).bind λ r=>some (((),()),(r,())):=λ l=>by
  show eh _ (bI b4 [] l)=_
  cases bI b4 ([]:List (E.T.El b)) l<;>rfl
 cases l with
 |cons d l=>exact⟨_,j,λ r g=>(J d l).trans ((k _).symm.trans g)⟩
 |nil=>
  have ev:a_ E.T F w ρ bl [.s b []] vs:=j;simp only[a_,ax]at ev;obtain⟨u,us,rfl,s,rfl⟩:=ev;obtain⟨A,c,e,v,ao,aW,_⟩:=s;simp only[hU,and_true]at e;subst e;have i:=k [];rw[q]at i;cases A with
  |none=>rw[aW rfl];exact⟨[.p (.slice none 0 0)],by simp[a_,ax],λ r g=>n.trans (i.symm.trans g)⟩
  |some a=>exact⟨[.p (.slice (some a) 0 c)],by simp[a_,ax],λ r g=>(o a c).trans (i.symm.trans g)⟩
end
end ba
namespace I
def bf{ρ α:Type}(o:Option (Way ρ α)):Option (α⊕ρ):=match o with
 |none=>none
 |some (.go a)=>some (.inl a)
 |some (.out r)=>some (.inr r)
def dt{α:Type}(p:Prop)(o:Option α):Option α:=@ite _ p (Classical.propDecidable p) o none
theorem dK{α:Type}{p:Prop}{o:Option α}(h:p):dt p o=o:=by unfold dt;exact nf h
theorem dJ{α:Type}{p:Prop}:dt p (none:Option α)=none:=by unfold dt;split<;>rfl
theorem ei{α:Type}{p:Prop}{o:Option α}{r:α}(h:dt p o=some r):p/\o=some r:=by unfold dt at h;split at h;rename_i a;exact⟨a,h⟩;cases h
section
variable{α β ct sq ρ σ:Type}
theorem aFv(o:Option (Way ρ α))(k:α->Option (Way ρ β)):df o k=cZ (bf o) k (λ r=>some (.out r)):=by
 cases o with
 |none=>rfl
 |some y=>cases y<;>rfl
theorem aFG(o:Option (Way ρ α))(k:α->Option ρ):cr o k=cZ (bf o) k (λ r=>some r):=by
 cases o with
 |none=>rfl
 |some y=>cases y<;>rfl
theorem aFN(a:α):bf (some (.go a):Option (Way ρ α))=some (.inl a):=rfl
theorem aFO(r:ρ):bf (some (.out r):Option (Way ρ α))=some (.inr r):=rfl
theorem aFP:bf (none:Option (Way ρ α))=none:=rfl
theorem aFQ(o:Option ct)(f:ct->Option (Way ρ α)):bf (o.bind f)=o.bind λ x=>bf (f x):=by cases o<;>rfl
theorem aFR(c:Bool)(x y:Option (Way ρ α)):bf (cond c x y)=cond c (bf x) (bf y):=by cases c<;>rfl
theorem aFS(o:Option (ct⊕sq))(f:ct->Option (Way ρ α))(g:sq->Option (Way ρ α)):bf (cZ o f g)=cZ o (λ x=>bf (f x)) (λ x=>bf (g x)):=by
 cases o with
 |none=>rfl
 |some y=>cases y<;>rfl
theorem aFT(a:α)(k:α->Option ct)(l:β->Option ct):cZ (some (.inl a)) k l=k a:=rfl
theorem aFw(b:β)(k:α->Option ct)(l:β->Option ct):cZ (some (.inr b)) k l=l b:=rfl
theorem aFx(k:α->Option ct)(l:β->Option ct):cZ none k l=none:=rfl
theorem aFy(o:Option sq)(f:sq->Option (α⊕β))(k:α->Option ct)(l:β->Option ct):cZ (o.bind f) k l=o.bind λ x=>cZ (f x) k l:=by cases o<;>rfl
theorem aFz(c:Bool)(x y:Option (α⊕β))(k:α->Option ct)(l:β->Option ct):cZ (cond c x y) k l=cond c (cZ x k l) (cZ y k l):=by cases c<;>rfl
theorem aFA(o:Option (ρ⊕σ))(f:ρ->Option (α⊕β))(g:σ->Option (α⊕β))(k:α->Option ct)(l:β->Option ct):cZ (cZ o f g) k l=cZ o (λ x=>cZ (f x) k l) (λ x=>cZ (g x) k l):=by
 cases o with
 |none=>rfl
 |some y=>cases y<;>rfl
theorem aFB(o:Option α)(f:α->Option β)(g:β->Option ct):(o.bind f).bind g=o.bind λ x=>(f x).bind g:=by cases o<;>rfl
theorem aFC(a:α)(f:α->Option β):(some a).bind f=f a:=rfl
theorem aFD(f:α->Option β):ej none f=none:=rfl
theorem aFE(c:Bool)(x y:Option α)(f:α->Option β):(cond c x y).bind f=cond c (x.bind f) (y.bind f):=by cases c<;>rfl
theorem aFF(o:Option (ρ⊕σ))(k:ρ->Option α)(l:σ->Option α)(f:α->Option β):(cZ o k l).bind f=cZ o (λ x=>(k x).bind f) (λ x=>(l x).bind f):=by
 cases o with
 |none=>rfl
 |some y=>cases y<;>rfl
theorem aFH(o:Option α)(f:α->Option β)(g:β->ct):(o.bind f).map g=o.bind λ x=>(f x).map g:=by cases o<;>rfl
theorem aFI(c:Bool)(x y:Option α)(g:α->ct):(cond c x y).map g=cond c (x.map g) (y.map g):=by cases c<;>rfl
theorem aFJ(a:α)(g:α->ct):(some a).map g=some (g a):=rfl
theorem aFK(g:α->ct):eh g none=none:=rfl
theorem aFL(o:Option (ρ⊕σ))(k:ρ->Option α)(l:σ->Option α)(g:α->ct):(cZ o k l).map g=cZ o (λ x=>(k x).map g) (λ x=>(l x).map g):=by
 cases o with
 |none=>rfl
 |some y=>cases y<;>rfl
theorem aFM{cS:Type}(k:cS)(b:cS->Option α):join k b=b k:=rfl
def kx{α β:Type}(o:Option (Option α×β)):Option ((α×β)⊕β):=match o with
 |none=>none
 |some (some v,e)=>some (.inl (v,e))
 |some (none,e)=>some (.inr e)
theorem akq(o:Option (Option α×β))(f:Option α×β->Option ct):o.bind f=cZ (kx o) (λ p=>f (some p.1,p.2)) (λ e=>f (none,e)):=by rcases o with _ |⟨_ |v,e⟩<;>rfl
theorem akr(v:α)(e:β):kx (some (some v,e))=some (.inl (v,e)):=rfl
theorem aks(e:β):kx (some ((none:Option α),e))=some (.inr e):=rfl
theorem akt:kx (none:Option (Option α×β))=none:=rfl
theorem aku(o:Option ct)(f:ct->Option (Option α×β)):kx (o.bind f)=o.bind λ x=>kx (f x):=by cases o<;>rfl
theorem akv(c:Bool)(x y:Option (Option α×β)):kx (cond c x y)=cond c (kx x) (kx y):=by cases c<;>rfl
theorem akw(o:Option (ct⊕sq))(f:ct->Option (Option α×β))(g:sq->Option (Option α×β)):kx (cZ o f g)=cZ o (λ x=>kx (f x)) (λ x=>kx (g x)):=by
 cases o with
 |none=>rfl
 |some y=>cases y<;>rfl
theorem aFr(b x:Bool):cond b (some x) (some false)=some (b&&x):=by cases b<;>rfl
theorem aFs{α:Type}(a b:Bool)(x y:Option α):cond a (cond b x y) y=cond (a&&b) x y:=by cases a<;>rfl
theorem Y2{α:Type}(a b:Bool)(x y:Option α):cond a x (cond b x y)=cond (a||b) x y:=by cases a<;>rfl
theorem bb:(∀ {α β ρ:Type}(o:Option (Way ρ α))(k:α->Option (Way ρ β)),df o k=cZ (bf o) k (λ r=>some (.out r)))/\(∀ {α ρ:Type}(o:Option (Way ρ α))(k:α->Option ρ),cr o k=cZ (bf o) k (λ r=>some r))/\(∀ {α ρ:Type}(a:α),bf (some (.go a):Option (Way ρ α))=some (.inl a))/\(∀ {α ρ:Type}(r:ρ),bf (some (.out r):Option (Way ρ α))=some (.inr r))/\(∀ {α ρ:Type},bf (none:Option (Way ρ α))=none)/\(∀ {α ct ρ:Type}(o:Option ct)(f:ct->Option (Way ρ α)),bf (o.bind f)=o.bind λ x=>bf (f x))/\(∀ {α ρ:Type}(c:Bool)(x y:Option (Way ρ α)),bf (cond c x y)=cond c (bf x) (bf y))/\(∀ {α ct sq ρ:Type}(o:Option (ct⊕sq))(f:ct->Option (Way ρ α))(g:sq->Option (Way ρ α)),bf (cZ o f g)=cZ o (λ x=>bf (f x)) (λ x=>bf (g x)))/\(∀ {α β ct:Type}(a:α)(k:α->Option ct)(l:β->Option ct),cZ (some (.inl a)) k l=k a)/\(∀ {α β ct:Type}(b:β)(k:α->Option ct)(l:β->Option ct),cZ (some (.inr b)) k l=l b)/\(∀ {α β ct:Type}(k:α->Option ct)(l:β->Option ct),cZ none k l=none)/\(∀ {α β ct sq:Type}(o:Option sq)(f:sq->Option (α⊕β))(k:α->Option ct)(l:β->Option ct),cZ (o.bind f) k l=o.bind λ x=>cZ (f x) k l)/\(∀ {α β ct:Type}(c:Bool)(x y:Option (α⊕β))(k:α->Option ct)(l:β->Option ct),cZ (cond c x y) k l=cond c (cZ x k l) (cZ y k l))/\(∀ {α β ct ρ σ:Type}(o:Option (ρ⊕σ))(f:ρ->Option (α⊕β))(g:σ->Option (α⊕β))(k:α->Option ct)(l:β->Option ct),cZ (cZ o f g) k l=cZ o (λ x=>cZ (f x) k l) (λ x=>cZ (g x) k l))/\(∀ {α β ct:Type}(o:Option α)(f:α->Option β)(g:β->Option ct),(o.bind f).bind g=o.bind λ x=>(f x).bind g)/\(∀ {α β:Type}(a:α)(f:α->Option β),(some a).bind f=f a)/\(∀ {α β:Type}(f:α->Option β),ej none f=none)/\(∀ {α β:Type}(c:Bool)(x y:Option α)(f:α->Option β),(cond c x y).bind f=cond c (x.bind f) (y.bind f))/\(∀ {α β ρ σ:Type}(o:Option (ρ⊕σ))(k:ρ->Option α)(l:σ->Option α)(f:α->Option β),(cZ o k l).bind f=cZ o (λ x=>(k x).bind f) (λ x=>(l x).bind f))/\(∀ {α β ct:Type}(o:Option α)(f:α->Option β)(g:β->ct),(o.bind f).map g=o.bind λ x=>(f x).map g)/\(∀ {α ct:Type}(c:Bool)(x y:Option α)(g:α->ct),(cond c x y).map g=cond c (x.map g) (y.map g))/\(∀ {α ct:Type}(a:α)(g:α->ct),(some a).map g=some (g a))/\(∀ {α ct:Type}(g:α->ct),eh g none=none)/\(∀ {α ct ρ σ:Type}(o:Option (ρ⊕σ))(k:ρ->Option α)(l:σ->Option α)(g:α->ct),(cZ o k l).map g=cZ o (λ x=>(k x).map g) (λ x=>(l x).map g))/\(∀ {α:Type}{cS:Type}(k:cS)(b:cS->Option α),join k b=b k):=⟨aFv,aFG,aFN,aFO,aFP,aFQ,aFR,aFS,aFT,aFw,aFx,aFy,aFz,aFA,aFB,aFC,aFD,aFE,aFF,aFH,aFI,aFJ,aFK,aFL,aFM⟩
end
end I
namespace ba
open Go Go.RowKit ay I
theorem bP.bY{E:Env}{bw:fz E}{LE:oE E}{n id:Nat}{body:Code}{c:bP E.T}(a:∀d,c.fn 0 d=none)
 (b:∀k (da:dw E.T.El c.pas)(db:cK E.T.El c.pbs) q,c.fn (k+1) (da,db)=some q->(den E bw LE n body (Al E c.vp da db)).run (c.vp.fin E id k)=(c.fn (k+1) (da,db)).map λ r=>bW (da,db) c.ws r):c.vp.oF E bw LE n id body:=
 ⟨λ d=>by exact(congrArg (eh _) (a d)).trans rfl,λ k da db r h=>by obtain⟨q,e,_⟩:=cA.1 h;exact(b k da db q e).trans h⟩
def okF(P:Program)(f:Nat):Bool:=match P.funcs[f]? with
 |some fn=>!(fn.name== "runtime.NumGoroutine")&& !fn.body.isNone
 |none=>false
theorem akF{P:Program}{f:Nat}(h:okF P f=true)(args:Array Value)(w:World):(callFunc f args).run P w= .ok (.enter f args) w:=by
 unfold okF at h;split at h
 ·rename_i fn ad;simp only[cd,hh]at h;have a: ¬fn.name= "runtime.NumGoroutine" :=λ e=>by rw[e]at h;simp at h
  cases ag:fn.body with
  |none=>rw[ag]at h;simp at h
  |some c=>simp[callFunc,go_sem,ad,a,ag]
 ·cases h
def Qw(P:Program):List Nat->Bool
 |[]=>true
 |f::r=>okF P f&&Qw P r
theorem Zb{P:Program}:∀ {l:List Nat}{f:Nat},Qw P l=true->f∈l->okF P f=true
 |g::r,f,h,ad=>by simp only[Qw,cd]at h;rcases cH.1 ad with rfl |ad;exact h.1;exact Zb h.2 ad
theorem QX{α:Type}{A B:dm α}{F F':Nat->Prop}{w w':World}(h:∀cs d,A.rd F w cs d->B.rd F' w' cs d):∀ {l:List α}{xs:List Value},dN A F w xs l->dN B F' w' xs l
 |[],xs,a=>a
 |d::r,xs,a=>by obtain⟨cs,ys,rfl,b,J⟩:=a;exact⟨cs,ys,rfl,h _ _ b,QX h J⟩
theorem jV{α:Type}{A B:dm α}{F:Nat->Prop}{w:World}(h:∀cs d,A.rd F w cs d->B.rd F w cs d){xs:List Value}{l:List α}(a:(b7 A).rd F w xs l):(b7 B).rd F w xs l:=by obtain⟨P,c,e,b,J,f,g⟩:=a;refine⟨P,c,e,b,J,f,λ i=>?_⟩;obtain⟨j,k,ys,m,n⟩:=g i;exact⟨j,k,ys,QX h m,n⟩
def Cv(P:Program)(T:bU)(t:Nat)(e:b8 T.El t):Prop:=∀f,e.eq=some f->∀F w xs ys d e',e.ty.rd F w xs d->e.ty.rd F w ys e'->∀(o:Oper)(a:Act)(x y:Operand)(t':TypeId)(b:Bool),o.op= .binOp (cond b .eql .neq) t x y t'->a.eval x= .agg ⟨xs⟩->a.eval y= .agg ⟨ys⟩->∀w',bh P o a w' (.bool (cond b (f d e') (!f d e'))) w'
def UD(P:Program)(T:bU):List (Σ t,b8 T.El t)->Prop
 |[]=>True
 |p::r=>Cv P T p.1 p.2/\UD P T r
theorem UC{P:Program}{T:bU}{t:Nat}:∀ {es:List (Σ t,b8 T.El t)},UD P T es->Cv P T t (fZ es t)
 |[],_=>λ f ad=>by cases ad
 |p::r,h=>by simp only[fZ];split;rename_i e _;subst e;exact h.1;exact UC h.2
theorem fP{P:Program}{T:bU}{t:Nat}{e:b8 T.El t}(h:e.eq=none):Cv P T t e:=λ f ad=>by rw[h]at ad;cases ad
section
variable{E:Env}{f:Nat}
theorem aj1(W:World):Mem E.T W [] (λ _=>False) [] [] W:=⟨br.refl _ _,rfl,λ _ h=>h.elim,λ k ⟨i,B,h,a,_⟩=>by simp at a,λ i j B C h g a=>by simp at a,λ i B h a=>by simp at a⟩
theorem aEn(c:E.cY=[]){g:List (aL E.T.El)->List (aH E.T.El)->D (fE E.T.El)}(hc:kH E f g){ys:List (aL E.T.El)}(d:(g ys []).out ⟨.ret (.p (.bool true)),[],[]⟩){W:World}{vs:List Value}(j:a_ E.T (λ k=>k<W.heap.size) W [] [] ys vs) :
 Calls E.P f ⟨vs⟩ W λ e w'=>e= .returned (.bool true)/\br [] W w':=by
 have l:a_ E.T (bj (λ _=>False) ([]:List (aH E.T.El)) [] W) W [] [] ys vs:=a_.later (λ k m=>⟨⟨λ h=>h,λ⟨i,B,h,n,_⟩=>by simp at n,m⟩,rfl⟩) .refl ys j
 refine(hc ys [] _ d W [] (λ _=>False) [] W vs (aj1 W) (λ g y b=>by rw[c]at b;simp[cI]at b) l).mono λ e w' ⟨ρ',o,_,_,a⟩=>?_
 cases e with
 |returned v=>
  have a:v= .bool true:=by simp only[Dd,ax]at a;exact a
  exact⟨by rw[a],o.bZ⟩
 |panicked zO=>exact a.elim
 |outgrown=>exact a.elim
end
section
variable{T:bU}{W w w':World}{M0:List Nat}{X:Nat->Prop}{bl:List (aH T.El)}{ρ:List Value}{E:List bc}{D:List bG}
variable{t sz:Nat}{h:Value}{l:List (T.El t)}{xs:List Value}{R:dm (T.El t)}
variable{t' vU:Nat}{h':Value}{l':List (T.El t')}{fc:List Value}{ad2:dm (T.El t')}
theorem azP{A:Option Addr}{n c k:Nat}(a:k∈ag (.slice A n c)):k∈(Value.slice A n c).ownBlock.toList:=by cases A<;>cases c<;>simp_all [ag,Value.ownBlock]
theorem aaQ{F:Nat->Prop}{M:List Nat}(a:(bc.row t sz h l xs).ok w')(b:(bG.rows R xs l).ok M w')(e:(T.ty t).size=sz)(f:∀F cs d,R.rd F w' cs d->∀F',(T.ty t).rd F' w' cs d)(g k:Nat):jF T F w' ρ bl (.r t g k l) h:=by subst e;obtain⟨A,c,rfl,_⟩:=LY a;exact⟨A,c,xs,rfl,.inl a,QX (λ cs d i=>f _ _ _ i _) b⟩
theorem Oj(aj:bz w [] [] w' E D)(hi:bc.row t sz h l xs∈E){g k:Nat}:∀q∈bF (aH.r t g k l:aH T.El) h,q∈(bc.row t sz h l xs).bF/\w.heap.size<=q/\q<w'.heap.size:=λ q d=>by obtain⟨A,c,rfl,_⟩:=LY (aj.ok _ hi);have a:q∈(bc.row t sz (.slice A l.length c) l xs).bF:=azP d;have b:=aj.lt q (hN.2 ⟨_,hi,a⟩);exact⟨a,b.2.resolve_left (by simp),b.1⟩
theorem Mem.st1(b:Mem T W M0 X bl ρ w)(aj:bz w [] [] w' (bc.row t sz h l xs::E) (bG.rows R xs l::D))(c:(T.ty t).size=sz)(e:∀F cs d,R.rd F w' cs d->∀F',(T.ty t).rd F' w' cs d) :
 Mem T W M0 X (bl++[.r t 0 0 l]) (ρ++[h]) w'/\To X bl (bl++[.r t 0 0 l]) ρ (ρ++[h]) w w':=
 ⟨b.push aj.bZ (λ q a=>(Oj (xs:=xs) (sz:=sz) aj (by simp) q a).2) (aaQ (aj.e 0 rfl) (aj.d 0 rfl) c e 0 0),b.BJ aj.bZ λ q a=>(Oj (xs:=xs) (sz:=sz) aj (by simp) q a).2⟩
theorem Mem.st2(f:Mem T W M0 X bl ρ w)(aj:bz w [] [] w' (bc.row t sz h l xs::bc.row t' vU h' l' fc::E) (bG.rows R xs l::bG.rows ad2 fc l'::D))(i:(T.ty t).size=sz)(j:∀F cs d,R.rd F w' cs d->∀F',(T.ty t).rd F' w' cs d)
 (m:(T.ty t').size=vU)(b:∀F cs d,ad2.rd F w' cs d->∀F',(T.ty t').rd F' w' cs d) :
 Mem T W M0 X (bl++[.r t 0 0 l,.r t' 0 0 l']) (ρ++[h,h']) w'/\To X bl (bl++[.r t 0 0 l,.r t' 0 0 l']) ρ (ρ++[h,h']) w w':=by
 have c:=Oj (T:=T) (g:=0) (k:=0) (l:=l) (h:=h) (xs:=xs) (sz:=sz) aj (by simp)
 have e:=Oj (T:=T) (g:=0) (k:=0) (l:=l') (h:=h') (xs:=fc) (sz:=vU) aj (by simp)
 have aJ:=aj.bC
 simp only[b1,h7]at aJ
 refine⟨f.alj aj.bZ (λ q a=>(c q a).2) (λ q a=>(e q a).2) (λ q n J=>?_) (aaQ (aj.e 0 rfl) (aj.d 0 rfl) i j 0 0) (aaQ (aj.e 1 rfl) (aj.d 1 rfl) m b 0 0),f.abx aj.bZ (λ q a=>(c q a).2) λ q a=>(e q a).2⟩
 exact(fx.1 aJ).2.2 q (c q n).1 q (e8 _ (e q J).1) rfl
end
def abB{α:Type}(T:dm α):dm α where
 size:=1
 rd F w cs d:=∃a q us,cs=[.pointer (some ⟨a,q,none⟩)]/\F a/\T.rd F w us d/\fy w ⟨a,q,none⟩ us
 len h:=by obtain⟨a,q,us,rfl,_⟩:=h;rfl
 one h v c:=by obtain⟨a,q,us,rfl,_⟩:=h;simp only[dV]at c;subst c;rfl
 law b h:=by obtain⟨a,q,us,rfl,e,J,f⟩:=h;exact⟨a,q,us,rfl,(b a e).1,T.law b J,f.law (b a e).2⟩
def XR{El:Nat->Type}(s:Nat):List (aL El)->Option (El s)
 |[.x t d 0]=>match lL t s with
  | .isTrue h=>some (h▸d)
  | .isFalse _=>none
 |_=>none
section
variable{T:bU}{F:Nat->Prop}{w:World}{ρ:List Value}{bl:List (aH T.El)}
theorem aCl{s:Nat}{l:List (aL T.El)}{d:T.El s}(h:XR s l=some d){xs:List Value}(b:a_ T F w ρ bl l xs):(abB (T.ty s)).rd F w xs d:=by unfold XR at h;split at h;rename_i t d';split at h;rename_i e _;subst e;simp only[aF]at h;subst h;simp only[a_]at b;obtain⟨u,us,rfl,c,rfl⟩:=b;simp only[ax]at c;obtain⟨a,q,cs,rfl,f,J,g⟩:=c;exact⟨a,q,cs,rfl,f,J,g⟩;cases h;cases h
theorem av'{s:Nat}{d:T.El s}{xs:List Value}(h:(abB (T.ty s)).rd F w xs d):a_ T F w ρ bl [.x s d 0] xs:=by obtain⟨a,q,us,rfl,b,J,c⟩:=h;simp only[a_];refine⟨_,_,rfl,?_,rfl⟩;simp only[ax];exact⟨a,q,us,rfl,b,J,c⟩
end
end ba
namespace Go.Proofs.YteeliipnilghaaaGreat
open Go Go.RowKit ay ba
def cv:Nat->Type:=afX [(2,Int),(3,Int),(4,Bool),(5,UInt8),(6,UInt8),(9,List UInt8),(10,List UInt8),(11,List UInt8),(21,Int),(22,List Int),(24,I.aV),(136,I.Field),(128,I.Kind),(157,I.Handler),(131,I.Method),(134,I.aq),(25,List I.aq),(124,List I.Field),(26,List (List I.Field)),(120,List (List UInt8)),(27,List (List (List UInt8))),(166,I.Target),(121,List I.Target),(28,List (List I.Target)),(30,I.aP),(31,Int),(69,I.b9),(126,List I.Kind),(129,List I.Handler),(132,List I.Method),(192,Int),(202,List (List Int)),(204,List UInt8),(219,UInt8),(220,UInt8),(223,Int),(224,Int),(109,Int)]
def af8:List (Σ t,b8 cv t):=[]
def ao:b8 cv 2:=fl af8 false [.i .i64] (λ(d:Int)=>(d,())) (λ(p:Int×Unit)=>p.1) none (some vm)
def GA:List (Σ t,b8 cv t):=⟨2,ao⟩::af8
def aW:b8 cv 3:=fl GA false [.i .i64] (λ(d:Int)=>(d,())) (λ(p:Int×Unit)=>p.1) none (some vm)
def agr:List (Σ t,b8 cv t):=⟨3,aW⟩::GA
def bR:b8 cv 4:=fl agr false [.b] (λ(d:Bool)=>(d,())) (λ(p:Bool×Unit)=>p.1) none none
def UH:List (Σ t,b8 cv t):=⟨4,bR⟩::agr
def dx:b8 cv 5:=fl UH false [.y] (λ(d:UInt8)=>(d,())) (λ(p:UInt8×Unit)=>p.1) none none
def agu:List (Σ t,b8 cv t):=⟨5,dx⟩::UH
def eV:b8 cv 6:=fl agu false [.y] (λ(d:UInt8)=>(d,())) (λ(p:UInt8×Unit)=>p.1) none none
def N9:List (Σ t,b8 cv t):=⟨6,eV⟩::agu
def Gy:b8 cv 9:=fl N9 false [.s] (λ(d:List UInt8)=>(d,())) (λ(p:(List UInt8)×Unit)=>p.1) none (some K2)
def agw:List (Σ t,b8 cv t):=⟨9,Gy⟩::N9
def Gw:b8 cv 10:=fl agw false [.s] (λ(d:List UInt8)=>(d,())) (λ(p:(List UInt8)×Unit)=>p.1) none (some K2)
def af9:List (Σ t,b8 cv t):=⟨10,Gw⟩::agw
def Gx:b8 cv 11:=fl af9 false [.s] (λ(d:List UInt8)=>(d,())) (λ(p:(List UInt8)×Unit)=>p.1) none (some K2)
def af_:List (Σ t,b8 cv t):=⟨11,Gx⟩::af9
def afI:b8 cv 21:=fl af_ false [.i .i32] (λ(d:Int)=>(d,())) (λ(p:Int×Unit)=>p.1) none none
def agk:List (Σ t,b8 cv t):=⟨21,afI⟩::af_
def afK:b8 cv 22:=fl agk false [.l 3] (λ(d:List Int)=>(d,())) (λ(p:(List Int)×Unit)=>p.1) none none
def agm:List (Σ t,b8 cv t):=⟨22,afK⟩::agk
def afO:b8 cv 24:=fl agm true [.l 3,.i .i64,.i .i64,.i .i64,.i .i64,.l 3,.i .i64] (λ(d:I.aV)=>(d.Words,d.ak,d.aK,d.aO,d.aM,d.aU,d.Next,())) (λ(p:(List Int)×Int×Int×Int×Int×(List Int)×Int×Unit)=>(⟨p.1,p.2.1,p.2.2.1,p.2.2.2.1,p.2.2.2.2.1,p.2.2.2.2.2.1,p.2.2.2.2.2.2.1⟩:I.aV)) none none
def JK:List (Σ t,b8 cv t):=⟨24,afO⟩::agm
def Uu:b8 cv 136:=fl JK true [.s,.i .i64,.s] (λ(d:I.Field)=>(d.Name,d.Kind.Kind,d.Kind.aq,())) (λ(p:(List UInt8)×Int×(List UInt8)×Unit)=>(⟨p.1,⟨p.2.1,p.2.2.1⟩⟩:I.Field)) (some λ(d e:I.Field)=>decide (d=e)) none
def N6:List (Σ t,b8 cv t):=⟨136,Uu⟩::JK
def Ut:b8 cv 128:=fl N6 true [.i .i64,.s] (λ(d:I.Kind)=>(d.Kind,d.aq,())) (λ(p:Int×(List UInt8)×Unit)=>(⟨p.1,p.2.1⟩:I.Kind)) (some λ(d e:I.Kind)=>decide (d=e)) none
def N4:List (Σ t,b8 cv t):=⟨128,Ut⟩::N6
def Uv:b8 cv 157:=fl N4 true [.i .i64,.i .i64,.i .i64,.s] (λ(d:I.Handler)=>(d.From,d.To,d.At,d.aq,())) (λ(p:Int×Int×Int×(List UInt8)×Unit)=>(⟨p.1,p.2.1,p.2.2.1,p.2.2.2.1⟩:I.Handler)) (some λ(d e:I.Handler)=>decide (d=e)) none
def N7:List (Σ t,b8 cv t):=⟨157,Uv⟩::N4
def afC:b8 cv 131:=fl N7 true [.s,.b,.l 128,.i .i64,.s,.i .i64,.i .i64,.s,.l 157] (λ(d:I.Method)=>(d.Name,d.Static,d.cF,d.Returns.Kind,d.Returns.aq,d.ia,d.h9,d.Code,d.cL,())) (λ(p:(List UInt8)×Bool×(List I.Kind)×Int×(List UInt8)×Int×Int×(List UInt8)×(List I.Handler)×Unit)=>(⟨p.1,p.2.1,p.2.2.1,⟨p.2.2.2.1,p.2.2.2.2.1⟩,p.2.2.2.2.2.1,p.2.2.2.2.2.2.1,p.2.2.2.2.2.2.2.1,p.2.2.2.2.2.2.2.2.1⟩:I.Method)) none none
def N5:List (Σ t,b8 cv t):=⟨131,afC⟩::N7
def afE:b8 cv 134:=fl N5 true [.s,.s,.l 136,.l 131] (λ(d:I.aq)=>(d.Name,d.dc,d.Fields,d.bp,())) (λ(p:(List UInt8)×(List UInt8)×(List I.Field)×(List I.Method)×Unit)=>(⟨p.1,p.2.1,p.2.2.1,p.2.2.2.1⟩:I.aq)) none none
def agf:List (Σ t,b8 cv t):=⟨134,afE⟩::N5
def afP:b8 cv 25:=fl agf false [.l 134] (λ(d:List I.aq)=>(d,())) (λ(p:(List I.aq)×Unit)=>p.1) none none
def UF:List (Σ t,b8 cv t):=⟨25,afP⟩::agf
def afz:b8 cv 124:=fl UF false [.l 136] (λ(d:List I.Field)=>(d,())) (λ(p:(List I.Field)×Unit)=>p.1) none none
def agb:List (Σ t,b8 cv t):=⟨124,afz⟩::UF
def afQ:b8 cv 26:=fl agb false [.l 124] (λ(d:List (List I.Field))=>(d,())) (λ(p:(List (List I.Field))×Unit)=>p.1) none none
def UG:List (Σ t,b8 cv t):=⟨26,afQ⟩::agb
def afx:b8 cv 120:=fl UG false [.l 9] (λ(d:List (List UInt8))=>(d,())) (λ(p:(List (List UInt8))×Unit)=>p.1) none none
def af':List (Σ t,b8 cv t):=⟨120,afx⟩::UG
def afR:b8 cv 27:=fl af' false [.l 120] (λ(d:List (List (List UInt8)))=>(d,())) (λ(p:(List (List (List UInt8)))×Unit)=>p.1) none none
def N8:List (Σ t,b8 cv t):=⟨27,afR⟩::af'
def Uw:b8 cv 166:=fl N8 true [.i .i64,.i .i64] (λ(d:I.Target)=>(d.aq,d.Method,())) (λ(p:Int×Int×Unit)=>(⟨p.1,p.2.1⟩:I.Target)) (some λ(d e:I.Target)=>decide (d=e)) none
def UE:List (Σ t,b8 cv t):=⟨166,Uw⟩::N8
def afy:b8 cv 121:=fl UE false [.l 166] (λ(d:List I.Target)=>(d,())) (λ(p:(List I.Target)×Unit)=>p.1) none none
def aga:List (Σ t,b8 cv t):=⟨121,afy⟩::UE
def afS:b8 cv 28:=fl aga false [.l 121] (λ(d:List (List I.Target))=>(d,())) (λ(p:(List (List I.Target))×Unit)=>p.1) none none
def agq:List (Σ t,b8 cv t):=⟨28,afS⟩::aga
def afT:b8 cv 30:=fl agq true [.l 134,.l 3,.l 124,.l 120,.l 121] (λ(d:I.aP)=>(d.a1,d.aY,d.Fields,d.Names,d.aZ,())) (λ(p:(List I.aq)×(List Int)×(List (List I.Field))×(List (List (List UInt8)))×(List (List I.Target))×Unit)=>(⟨p.1,p.2.1,p.2.2.1,p.2.2.2.1,p.2.2.2.2.1⟩:I.aP)) none none
def ags:List (Σ t,b8 cv t):=⟨30,afT⟩::agq
def afU:b8 cv 31:=fl ags false [.i .i64] (λ(d:Int)=>(d,())) (λ(p:Int×Unit)=>p.1) none (some vm)
def agt:List (Σ t,b8 cv t):=⟨31,afU⟩::ags
def afV:b8 cv 69:=fl agt true [.l 134,.l 3,.l 124,.l 120,.l 121] (λ(d:I.b9)=>(d.K.a1,d.K.aY,d.K.Fields,d.K.Names,d.K.aZ,())) (λ(p:(List I.aq)×(List Int)×(List (List I.Field))×(List (List (List UInt8)))×(List (List I.Target))×Unit)=>(⟨⟨p.1,p.2.1,p.2.2.1,p.2.2.2.1,p.2.2.2.2.1⟩⟩:I.b9)) none none
def agv:List (Σ t,b8 cv t):=⟨69,afV⟩::agt
def afA:b8 cv 126:=fl agv false [.l 128] (λ(d:List I.Kind)=>(d,())) (λ(p:(List I.Kind)×Unit)=>p.1) none none
def agc:List (Σ t,b8 cv t):=⟨126,afA⟩::agv
def afB:b8 cv 129:=fl agc false [.l 157] (λ(d:List I.Handler)=>(d,())) (λ(p:(List I.Handler)×Unit)=>p.1) none none
def agd:List (Σ t,b8 cv t):=⟨129,afB⟩::agc
def afD:b8 cv 132:=fl agd false [.l 131] (λ(d:List I.Method)=>(d,())) (λ(p:(List I.Method)×Unit)=>p.1) none none
def age:List (Σ t,b8 cv t):=⟨132,afD⟩::agd
def afF:b8 cv 192:=fl age false [.i .i64] (λ(d:Int)=>(d,())) (λ(p:Int×Unit)=>p.1) none (some vm)
def agh:List (Σ t,b8 cv t):=⟨192,afF⟩::age
def afG:b8 cv 202:=fl agh false [.l 22] (λ(d:List (List Int))=>(d,())) (λ(p:(List (List Int))×Unit)=>p.1) none none
def agi:List (Σ t,b8 cv t):=⟨202,afG⟩::agh
def afH:b8 cv 204:=fl agi false [.l 5] (λ(d:List UInt8)=>(d,())) (λ(p:(List UInt8)×Unit)=>p.1) none none
def agj:List (Σ t,b8 cv t):=⟨204,afH⟩::agi
def afJ:b8 cv 219:=fl agj false [.y] (λ(d:UInt8)=>(d,())) (λ(p:UInt8×Unit)=>p.1) none none
def agl:List (Σ t,b8 cv t):=⟨219,afJ⟩::agj
def afL:b8 cv 220:=fl agl false [.y] (λ(d:UInt8)=>(d,())) (λ(p:UInt8×Unit)=>p.1) none none
def agn:List (Σ t,b8 cv t):=⟨220,afL⟩::agl
def afM:b8 cv 223:=fl agn false [.i .i32] (λ(d:Int)=>(d,())) (λ(p:Int×Unit)=>p.1) none none
def ago:List (Σ t,b8 cv t):=⟨223,afM⟩::agn
def afN:b8 cv 224:=fl ago false [.i .i32] (λ(d:Int)=>(d,())) (λ(p:Int×Unit)=>p.1) none none
def agp:List (Σ t,b8 cv t):=⟨224,afN⟩::ago
def afw:b8 cv 109:=⟨(abB (fZ agp 3).ty:dm (cv 109)),false,λ d=>[.x 3 (d:cv 3) 0],λ l=>(XR (El:=cv) 3 l:Option (cv 109)),none,none⟩
def axM:List (Σ t,b8 cv t):=⟨109,afw⟩::agp
def bs:bU:=⟨cv,axM⟩
theorem aws:eL bs 109 afw:=⟨λ d F w xs h=>av' (T:=bs) (s:=3) h,λ l d h F w ρ bl xs a=>aCl (T:=bs) (s:=3) h a,(λ K h=>by cases h),λ h d=>rfl⟩
theorem aw0:eL bs 2 ao:=ft trivial (λ _=>rfl) (λ h=>by rfl) (λ K h F w xs k a=>by cases h;obtain⟨v,vs,rfl,b,rfl⟩:=a;exact b)
theorem aw3:eL bs 3 aW:=ft trivial (λ _=>rfl) (λ h=>by rfl) (λ K h F w xs k a=>by cases h;obtain⟨v,vs,rfl,b,rfl⟩:=a;exact b)
theorem aw5:eL bs 4 bR:=ft trivial (λ _=>rfl) (λ h=>by rfl) (λ K h=>by cases h)
theorem aw6:eL bs 5 dx:=ft trivial (λ _=>rfl) (λ h=>by rfl) (λ K h=>by cases h)
theorem aw8:eL bs 6 eV:=ft trivial (λ _=>rfl) (λ h=>by rfl) (λ K h=>by cases h)
theorem aw9:eL bs 9 Gy:=ft trivial (λ _=>rfl) (λ h=>by rfl) (λ K h F w xs k a=>by cases h;obtain⟨v,vs,rfl,b,rfl⟩:=a;exact b)
theorem awt:eL bs 10 Gw:=ft trivial (λ _=>rfl) (λ h=>by rfl) (λ K h F w xs k a=>by cases h;obtain⟨v,vs,rfl,b,rfl⟩:=a;exact b)
theorem awu:eL bs 11 Gx:=ft trivial (λ _=>rfl) (λ h=>by rfl) (λ K h F w xs k a=>by cases h;obtain⟨v,vs,rfl,b,rfl⟩:=a;exact b)
theorem awQ:eL bs 21 afI:=ft trivial (λ _=>rfl) (λ h=>by rfl) (λ K h=>by cases h)
theorem awU:eL bs 22 afK:=ft ⟨by kernel_rfl,trivial⟩ (λ _=>rfl) (λ h=>by rfl) (λ K h=>by cases h)
theorem awV:eL bs 24 afO:=ft ⟨by kernel_rfl,by kernel_rfl,trivial⟩ (λ _=>rfl) (λ h=>by cases h) (λ K h=>by cases h)
theorem awG:eL bs 136 Uu:=ft trivial (λ _=>rfl) (λ h=>by cases h) (λ K h=>by cases h)
theorem awA:eL bs 128 Ut:=ft trivial (λ _=>rfl) (λ h=>by cases h) (λ K h=>by cases h)
theorem awI:eL bs 157 Uv:=ft trivial (λ _=>rfl) (λ h=>by cases h) (λ K h=>by cases h)
theorem awD:eL bs 131 afC:=ft ⟨by kernel_rfl,by kernel_rfl,trivial⟩ (λ _=>rfl) (λ h=>by cases h) (λ K h=>by cases h)
theorem awF:eL bs 134 afE:=ft ⟨by kernel_rfl,by kernel_rfl,trivial⟩ (λ _=>rfl) (λ h=>by cases h) (λ K h=>by cases h)
theorem awW:eL bs 25 afP:=ft ⟨by kernel_rfl,trivial⟩ (λ _=>rfl) (λ h=>by rfl) (λ K h=>by cases h)
theorem awy:eL bs 124 afz:=ft ⟨by kernel_rfl,trivial⟩ (λ _=>rfl) (λ h=>by rfl) (λ K h=>by cases h)
theorem awX:eL bs 26 afQ:=ft ⟨by kernel_rfl,trivial⟩ (λ _=>rfl) (λ h=>by rfl) (λ K h=>by cases h)
theorem aww:eL bs 120 afx:=ft ⟨by kernel_rfl,trivial⟩ (λ _=>rfl) (λ h=>by rfl) (λ K h=>by cases h)
theorem awY:eL bs 27 afR:=ft ⟨by kernel_rfl,trivial⟩ (λ _=>rfl) (λ h=>by rfl) (λ K h=>by cases h)
theorem awK:eL bs 166 Uw:=ft trivial (λ _=>rfl) (λ h=>by cases h) (λ K h=>by cases h)
theorem awx:eL bs 121 afy:=ft ⟨by kernel_rfl,trivial⟩ (λ _=>rfl) (λ h=>by rfl) (λ K h=>by cases h)
theorem awZ:eL bs 28 afS:=ft ⟨by kernel_rfl,trivial⟩ (λ _=>rfl) (λ h=>by rfl) (λ K h=>by cases h)
theorem aw1:eL bs 30 afT:=ft ⟨by kernel_rfl,by kernel_rfl,by kernel_rfl,by kernel_rfl,by kernel_rfl,trivial⟩ (λ _=>rfl) (λ h=>by cases h) (λ K h=>by cases h)
theorem aw2:eL bs 31 afU:=ft trivial (λ _=>rfl) (λ h=>by rfl) (λ K h F w xs k a=>by cases h;obtain⟨v,vs,rfl,b,rfl⟩:=a;exact b)
theorem aw7:eL bs 69 afV:=ft ⟨by kernel_rfl,by kernel_rfl,by kernel_rfl,by kernel_rfl,by kernel_rfl,trivial⟩ (λ _=>rfl) (λ h=>by cases h) (λ K h=>by cases h)
theorem awz:eL bs 126 afA:=ft ⟨by kernel_rfl,trivial⟩ (λ _=>rfl) (λ h=>by rfl) (λ K h=>by cases h)
theorem awB:eL bs 129 afB:=ft ⟨by kernel_rfl,trivial⟩ (λ _=>rfl) (λ h=>by rfl) (λ K h=>by cases h)
theorem awE:eL bs 132 afD:=ft ⟨by kernel_rfl,trivial⟩ (λ _=>rfl) (λ h=>by rfl) (λ K h=>by cases h)
theorem awM:eL bs 192 afF:=ft trivial (λ _=>rfl) (λ h=>by rfl) (λ K h F w xs k a=>by cases h;obtain⟨v,vs,rfl,b,rfl⟩:=a;exact b)
theorem awN:eL bs 202 afG:=ft ⟨by kernel_rfl,trivial⟩ (λ _=>rfl) (λ h=>by rfl) (λ K h=>by cases h)
theorem awO:eL bs 204 afH:=ft ⟨by kernel_rfl,trivial⟩ (λ _=>rfl) (λ h=>by rfl) (λ K h=>by cases h)
theorem awP:eL bs 219 afJ:=ft trivial (λ _=>rfl) (λ h=>by rfl) (λ K h=>by cases h)
theorem awR:eL bs 220 afL:=ft trivial (λ _=>rfl) (λ h=>by rfl) (λ K h=>by cases h)
theorem awS:eL bs 223 afM:=ft trivial (λ _=>rfl) (λ h=>by rfl) (λ K h=>by cases h)
theorem awT:eL bs 224 afN:=ft trivial (λ _=>rfl) (λ h=>by rfl) (λ K h=>by cases h)
theorem amX:zE bs:=aKc ⟨aws,awT,awS,awR,awP,awO,awN,awM,awE,awB,awz,aw7,aw2,aw1,awZ,awx,awK,awY,aww,awX,awy,awW,awF,awD,awI,awA,awG,awV,awU,awQ,awu,awt,aw9,aw8,aw6,aw5,aw3,aw0,trivial⟩
open Go Go.RowKit ay I ba
noncomputable def aI:Env:=⟨Tryz.prog,bs,[],false,(ef 174).drop 2,5,λ l=>l⟩
noncomputable def mz:Env:=⟨Tryz.prog,bs,[],true,(ef 174).drop 2,5,λ l=>l⟩
def jB:cW aI:=⟨[],[]⟩
theorem aF4(a8:dl aI)(h:jB.Ok):(jB.f 37 ((mZ aI.T 3 8).run aI)).Ok:=h.LN a8 rfl rfl (by kernel_rfl) (λ a c=>by kernel_rfl) λ d l=>by kernel_rfl
def Cs:cW aI:=jB.f 37 ((mZ aI.T 3 8).run aI)
theorem aF5(a8:dl aI)(h:Cs.Ok):(Cs.f 108 ((mZ aI.T 136 40).run aI)).Ok:=h.LN a8 rfl rfl (by kernel_rfl) (λ a c=>by kernel_rfl) λ d l=>by kernel_rfl
def su:cW aI:=Cs.f 108 ((mZ aI.T 136 40).run aI)
theorem aF6(a8:dl aI)(h:su.Ok):(su.f 109 ((mZ aI.T 131 128).run aI)).Ok:=h.LN a8 rfl rfl (by kernel_rfl) (λ a c=>by kernel_rfl) λ d l=>by kernel_rfl
def S_:cW aI:=su.f 109 ((mZ aI.T 131 128).run aI)
theorem aF7(a8:dl aI)(h:S_.Ok):(S_.f 110 ((mZ aI.T 128 24).run aI)).Ok:=h.LN a8 rfl rfl (by kernel_rfl) (λ a c=>by kernel_rfl) λ d l=>by kernel_rfl
def S':cW aI:=S_.f 110 ((mZ aI.T 128 24).run aI)
theorem aF8(a8:dl aI)(h:S'.Ok):(S'.f 111 ((mZ aI.T 157 40).run aI)).Ok:=h.LN a8 rfl rfl (by kernel_rfl) (λ a c=>by kernel_rfl) λ d l=>by kernel_rfl
def aqE:cW aI:=S'.f 111 ((mZ aI.T 157 40).run aI)
theorem aGI:Cv Tryz.prog bs 136 Uu:=by intro f ad F w xs ys d e i hy o a x y t' b c g h w';obtain rfl:=eD ad;obtain⟨_,_,rfl,rfl,_,_,rfl,rfl,_,_,rfl,rfl,rfl⟩:=i;obtain⟨_,_,rfl,rfl,_,_,rfl,rfl,_,_,rfl,rfl,rfl⟩:=hy;cases b;exact axH c g h;exact axD c g h
theorem aGH:Cv Tryz.prog bs 128 Ut:=by intro f ad F w xs ys d e i hy o a x y t' b c g h w';obtain rfl:=eD ad;obtain⟨_,_,rfl,rfl,_,_,rfl,rfl,rfl⟩:=i;obtain⟨_,_,rfl,rfl,_,_,rfl,rfl,rfl⟩:=hy;cases b;exact axJ c g h;exact axF c g h
theorem aGJ:Cv Tryz.prog bs 157 Uv:=by intro f ad F w xs ys d e i hy o a x y t' b c g h w';obtain rfl:=eD ad;obtain⟨_,_,rfl,rfl,_,_,rfl,rfl,_,_,rfl,rfl,_,_,rfl,rfl,rfl⟩:=i;obtain⟨_,_,rfl,rfl,_,_,rfl,rfl,_,_,rfl,rfl,_,_,rfl,rfl,rfl⟩:=hy;cases b;exact axI c g h;exact axE c g h
theorem aGK:Cv Tryz.prog bs 166 Uw:=by intro f ad F w xs ys d e i hy o a x y t' b c g h w';obtain rfl:=eD ad;obtain⟨_,_,rfl,rfl,_,_,rfl,rfl,rfl⟩:=i;obtain⟨_,_,rfl,rfl,_,_,rfl,rfl,rfl⟩:=hy;cases b;exact axK c g h;exact axG c g h
theorem af6:UD Tryz.prog bs bs.es:=⟨fP rfl,fP rfl,fP rfl,fP rfl,fP rfl,fP rfl,fP rfl,fP rfl,fP rfl,fP rfl,fP rfl,fP rfl,fP rfl,fP rfl,fP rfl,fP rfl,aGK,fP rfl,fP rfl,fP rfl,fP rfl,fP rfl,fP rfl,fP rfl,aGJ,aGH,aGI,fP rfl,fP rfl,fP rfl,fP rfl,fP rfl,fP rfl,fP rfl,fP rfl,fP rfl,fP rfl,fP rfl,trivial⟩
theorem ag5:Qw Tryz.prog aI.cm=true:=by kernel_rfl
theorem aeq(F:Nat->Prop)(w:World)(l:List UInt8)(xs:List Value)(h:dN RF F w xs l):dN (bs.ty 5) F w xs l:=by refine QX (A:=RF) (B:=bs.ty 5) (λ cs d h=>?_) h;change fs (λ t=>(fZ UH t).ty) F w [.y] cs (d,());exact⟨_,_,h,rfl,rfl⟩
theorem kg:dl aI:=⟨amX,λ f ad=>akF (Zb ag5 ad),by kernel_rfl,λ l=>rfl,aeq,λ t=>UC af6⟩
theorem NZ:dl mz:=⟨amX,λ f ad=>akF (Zb ag5 ad),by kernel_rfl,λ l=>rfl,aeq,λ t=>UC af6⟩
end Go.Proofs.YteeliipnilghaaaGreat
namespace I
def gp(a:Int)(b:Int)(c:Int):Option (Bool):=some ((decide (b<=a))&&(decide (a<=c)))
def nO(a:Int)(b:Int)(c:Int):Option (Bool):=some ((decide (b<=a))&&(decide (a<=c)))
def Pn(a:Int):Option (Bool):=some ((decide (a=3))||(decide (a=4)))
def Ea(b:List UInt8):Nat->Int->Option (Way (Bool) (Unit))
 |0,_=>none
 |bS+1,c=>
  cond (decide (c<(b.length:Int))) ((idx b c).bind λ a=>
  cond (((((decide ((a.toNat:Int)<97))||(decide (122<(a.toNat:Int))))&&((decide ((a.toNat:Int)<65))||(decide (90<(a.toNat:Int)))))&&((decide ((a.toNat:Int)<48))||(decide (57<(a.toNat:Int)))))&&(!decide ((a.toNat:Int)=95))) (some (.out false)) (Ea b bS (aw (c+1)))) (some (.go ()))
def o_(F:Nat)(s_:List UInt8):Option (Bool):=
 (bytesOf s_).bind λ a=>
 cr (α:=Unit) (Ea a F 0) λ(_:Unit)=>
 some ((!decide (s_=[]))&&(decide ((s_.length:Int)<=20)))
def xG(F:Nat)(a:Kind):Option (Bool):=
 (Pn a.Kind).bind λ b=>
 cond (b) ((o_ F a.aq).bind λ c=>
 some c) (some (((decide (a.Kind=1))||(decide (a.Kind=2)))&&(decide (a.aq=[]))))
def uJ(s_:List UInt8):Nat->Int->Option (Way (Bool) (Unit))
 |0,_=>none
 |bS+1,b=>
  cond (decide (b<(s_.length:Int))) ((idx s_ b).bind λ a=>
  cond (!(((((decide (97<=(a.toNat:Int)))&&(decide ((a.toNat:Int)<=122)))||((decide (65<=(a.toNat:Int)))&&(decide ((a.toNat:Int)<=90))))||((decide (48<=(a.toNat:Int)))&&(decide ((a.toNat:Int)<=57))))||(decide ((a.toNat:Int)=95)))) (some (.out false)) (uJ s_ bS (aw (b+1)))) (some (.go ()))
def pP(F:Nat)(s_:List UInt8):Option (Bool):=
 cr (α:=Unit) (uJ s_ F 0) λ(_:Unit)=>
 some ((decide (1<=(s_.length:Int)))&&(decide ((s_.length:Int)<=20)))
def wJ(F:Nat)(a:Kind):Option (Bool):=
 cond ((decide (a.Kind=1))||(decide (a.Kind=2))) (some (decide (a.aq=[]))) (cond ((decide (a.Kind=3))||(decide (a.Kind=4))) ((pP F a.aq).bind λ b=>
 some b) (some false))
def AB(F:Nat)(b:Method):Nat->Int->Option (Way (Int) (Unit))
 |0,_=>none
 |bS+1,c=>
  cond (decide (c<(b.cF.length:Int))) ((idx b.cF c).bind λ a=>
  (xG F (⟨a.Kind,a.aq⟩:Kind)).bind λ d=>
  cond (!d) (some (.out 7)) (AB F b bS (aw (c+1)))) (some (.go ()))
def Ef(F:Nat)(b:Method):Nat->Int->Option (Way (Int) (Unit))
 |0,_=>none
 |eM+1,c=>
  cond (decide (c<(b.cL.length:Int))) ((idx b.cL c).bind λ a=>
  (o_ F a.aq).bind λ d=>
  cond (!d) (some (.out 1)) ((nO a.From 0 200).bind λ g=>
  cond (!g) (some (.out 3)) ((nO a.To 0 200).bind λ e=>
  cond (!e) (some (.out 3)) ((nO a.At 0 200).bind λ f=>
  cond (!f) (some (.out 3)) (Ef F b eM (aw (c+1))))))) (some (.go ()))
def tg(F:Nat)(a:Method):Nat->Int->Option (Way (Int) (Unit))
 |0,_=>none
 |hY+1,b=>
  cond (decide (b<(a.cL.length:Int))) ((idx a.cL b).bind λ St=>
  (o_ F St.aq).bind λ c=>
  cond (!c) (some (.out 1)) ((nO St.From 0 200).bind λ d=>
  cond (!d) (some (.out 3)) ((nO St.To 0 200).bind λ e=>
  cond (!e) (some (.out 3)) ((nO St.At 0 200).bind λ f=>
  cond (!f) (some (.out 3)) (tg F a hY (aw (b+1))))))) (some (.go ()))
def Ed(F:Nat)(a:Method):Option (Int):=
 (o_ F a.Name).bind λ c=>
 cond (!c) (some 1) (cond (((decide (4<(a.cF.length:Int)))||(decide (200<(a.Code.length:Int))))||(decide (4<(a.cL.length:Int)))) (some 2) ((nO a.ia 0 10).bind λ d=>
 cond (!d) (some 3) ((nO a.h9 0 10).bind λ e=>
 cond (!e) (some 3) (cr (α:=Unit) (AB F a F 0) λ(_:Unit)=>
 cond (!decide ((⟨a.Returns.Kind,a.Returns.aq⟩:Kind)=(⟨0,[]⟩:Kind))) ((xG F (⟨a.Returns.Kind,a.Returns.aq⟩:Kind)).bind λ b=>
 cond (!b) (some 7) (cr (α:=Unit) (Ef F a F 0) λ(_:Unit)=>
 some 0)) (cr (α:=Unit) (tg F a F 0) λ(_:Unit)=>
 some 0)))))
def Eb(F:Nat)(c_:aq):Nat->Int->Option (Way (Int) (Unit))
 |0,_=>none
 |bS+1,b=>
  cond (decide (b<(c_.Fields.length:Int))) ((idx c_.Fields b).bind λ a=>
  (o_ F a.Name).bind λ c=>
  cond (!c) (some (.out 1)) ((xG F (⟨a.Kind.Kind,a.Kind.aq⟩:Kind)).bind λ LI=>
  cond (!LI) (some (.out 7)) (Eb F c_ bS (aw (b+1))))) (some (.go ()))
def Ec(F:Nat)(c_:aq):Nat->Int->Option (Way (Int) (Unit))
 |0,_=>none
 |eM+1,b=>
  cond (decide (b<(c_.bp.length:Int))) ((idx c_.bp b).bind λ a=>
  (Ed F (⟨a.Name,a.Static,a.cF,(⟨a.Returns.Kind,a.Returns.aq⟩:Kind),a.ia,a.h9,a.Code,a.cL⟩:Method)).bind λ c=>
  cond (!decide (c=0)) (some (.out c)) (Ec F c_ eM (aw (b+1)))) (some (.go ()))
def xF(F:Nat)(c_:aq):Nat->Int->Option (Way (Int) (Unit))
 |0,_=>none
 |hY+1,b=>
  cond (decide (b<(c_.Fields.length:Int))) ((idx c_.Fields b).bind λ a=>
  (o_ F a.Name).bind λ c=>
  cond (!c) (some (.out 1)) ((xG F (⟨a.Kind.Kind,a.Kind.aq⟩:Kind)).bind λ d=>
  cond (!d) (some (.out 7)) (xF F c_ hY (aw (b+1))))) (some (.go ()))
def tf(F:Nat)(c_:aq):Nat->Int->Option (Way (Int) (Unit))
 |0,_=>none
 |mP+1,c=>
  cond (decide (c<(c_.bp.length:Int))) ((idx c_.bp c).bind λ a=>
  (Ed F (⟨a.Name,a.Static,a.cF,(⟨a.Returns.Kind,a.Returns.aq⟩:Kind),a.ia,a.h9,a.Code,a.cL⟩:Method)).bind λ b=>
  cond (!decide (b=0)) (some (.out b)) (tf F c_ mP (aw (c+1)))) (some (.go ()))
def KW(F:Nat)(c_:aq):Option (Int):=
 (o_ F c_.Name).bind λ a=>
 cond (!a) (some 1) (cond (!decide (c_.dc=[])) ((o_ F c_.dc).bind λ b=>
 cond (!b) (some 1) (cond ((decide (6<(c_.Fields.length:Int)))||(decide (8<(c_.bp.length:Int)))) (some 2) (cr (α:=Unit) (Eb F c_ F 0) λ(_:Unit)=>
 cr (α:=Unit) (Ec F c_ F 0) λ(_:Unit)=>
 some 0))) (cond ((decide (6<(c_.Fields.length:Int)))||(decide (8<(c_.bp.length:Int)))) (some 2) (cr (α:=Unit) (xF F c_ F 0) λ(_:Unit)=>
 cr (α:=Unit) (tf F c_ F 0) λ(_:Unit)=>
 some 0)))
def AA(F:Nat)(c:List aq):Nat->Int->Option (Way (Int) (Unit))
 |0,_=>none
 |bS+1,d=>
  cond (decide (d<(c.length:Int))) ((idx c d).bind λ b=>
  (KW F (⟨b.Name,b.dc,b.Fields,b.bp⟩:aq)).bind λ a=>
  cond (!decide (a=0)) (some (.out a)) (AA F c bS (aw (d+1)))) (some (.go ()))
def KV(F:Nat)(a:List aq):Option (Int):=
 cond (decide (10<(a.length:Int))) (some 2) (cr (α:=Unit) (AA F a F 0) λ(_:Unit)=>
 some 0)
def CS(F:Nat)(a:Method):Nat->Int->Option (Way (Int) (Unit))
 |0,_=>none
 |bS+1,b=>
  cond (decide (b<(a.cF.length:Int))) ((idx a.cF b).bind λ c=>
  (wJ F c).bind λ d=>
  cond (!d) (some (.out 7)) (CS F a bS (aw (b+1)))) (some (.go ()))
def CT(F:Nat)(a:Method):Nat->Int->Option (Way (Int) (Unit))
 |0,_=>none
 |eM+1,b=>
  cond (decide (b<(a.cL.length:Int))) ((idx a.cL b).bind λ Sb=>
  (pP F Sb.aq).bind λ c=>
  cond (!c) (some (.out 1)) ((gp Sb.From 0 200).bind λ d=>
  cond (!d) (some (.out 3)) ((gp Sb.To 0 200).bind λ e=>
  cond (!e) (some (.out 3)) ((gp Sb.At 0 200).bind λ f=>
  cond (!f) (some (.out 3)) (CT F a eM (aw (b+1))))))) (some (.go ()))
def CR(F:Nat)(a:Method):Option (Int):=
 (pP F a.Name).bind λ c=>
 cond (!c) (some 1) (cond (((decide (4<(a.cF.length:Int)))||(decide (200<(a.Code.length:Int))))||(decide (4<(a.cL.length:Int)))) (some 2) ((gp a.ia 0 10).bind λ d=>
 cond (!d) (some 3) ((gp a.h9 0 10).bind λ e=>
 cond (!e) (some 3) (cr (α:=Unit) (CS F a F 0) λ(_:Unit)=>
 (wJ F (⟨a.Returns.Kind,a.Returns.aq⟩:Kind)).bind λ b=>
 cond ((!b)&&((!decide (a.Returns.Kind=0))||(!decide (a.Returns.aq=[])))) (some 7) (cr (α:=Unit) (CT F a F 0) λ(_:Unit)=>
 some 0)))))
def F5(F:Nat)(b:aq):Nat->Int->Option (Way (Int) (Unit))
 |0,_=>none
 |eM+1,c=>
  cond (decide (c<(b.Fields.length:Int))) ((idx b.Fields c).bind λ d=>
  (pP F d.Name).bind λ e=>
  cond (!e) (some (.out 1)) ((idx b.Fields c).bind λ a=>
  (wJ F (⟨a.Kind.Kind,a.Kind.aq⟩:Kind)).bind λ f=>
  cond (!f) (some (.out 7)) (F5 F b eM (aw (c+1))))) (some (.go ()))
def F6(F:Nat)(b:aq):Nat->Int->Option (Way (Int) (Unit))
 |0,_=>none
 |hY+1,c=>
  cond (decide (c<(b.bp.length:Int))) ((idx b.bp c).bind λ d=>
  (CR F d).bind λ a=>
  cond (!decide (a=0)) (some (.out a)) (F6 F b hY (aw (c+1)))) (some (.go ()))
def zn(F:Nat)(b:aq):Nat->Int->Option (Way (Int) (Unit))
 |0,_=>none
 |mP+1,c=>
  cond (decide (c<(b.Fields.length:Int))) ((idx b.Fields c).bind λ d=>
  (pP F d.Name).bind λ e=>
  cond (!e) (some (.out 1)) ((idx b.Fields c).bind λ a=>
  (wJ F (⟨a.Kind.Kind,a.Kind.aq⟩:Kind)).bind λ f=>
  cond (!f) (some (.out 7)) (zn F b mP (aw (c+1))))) (some (.go ()))
def zo(F:Nat)(b:aq):Nat->Int->Option (Way (Int) (Unit))
 |0,_=>none
 |vl+1,c=>
  cond (decide (c<(b.bp.length:Int))) ((idx b.bp c).bind λ d=>
  (CR F d).bind λ a=>
  cond (!decide (a=0)) (some (.out a)) (zo F b vl (aw (c+1)))) (some (.go ()))
def CC(F:Nat)(b:List aq):Nat->Int->Option (Way (Int) (Unit))
 |0,_=>none
 |bS+1,c=>
  cond (decide (c<(b.length:Int))) (df (α:=Unit) ((idx b c).bind λ a=>
  (pP F a.Name).bind λ d=>
  cond (!d) (some (.out 1)) (cond (!decide (a.dc=[])) ((pP F a.dc).bind λ e=>
  cond (!e) (some (.out 1)) (cond ((decide (6<(a.Fields.length:Int)))||(decide (8<(a.bp.length:Int)))) (some (.out 2)) (df (α:=Unit) (F5 F a F 0) λ(_:Unit)=>
  df (α:=Unit) (F6 F a F 0) λ(_:Unit)=>
  some (.go ())))) (cond ((decide (6<(a.Fields.length:Int)))||(decide (8<(a.bp.length:Int)))) (some (.out 2)) (df (α:=Unit) (zn F a F 0) λ(_:Unit)=>
  df (α:=Unit) (zo F a F 0) λ(_:Unit)=>
  some (.go ()))))) λ(_:Unit)=>
  CC F b bS (aw (c+1))) (some (.go ()))
def Jb(F:Nat)(a:List aq):Option (Int):=
 cond (decide (10<(a.length:Int))) (some 2) (cr (α:=Unit) (CC F a F 0) λ(_:Unit)=>
 some 0)
def q5(b:List Kind)(c:List Kind):Nat->Int->Option (Way (Bool) (Unit))
 |0,_=>none
 |bS+1,a=>
  cond (decide (a<(b.length:Int))) ((idx b a).bind λ d=>
  (idx c a).bind λ oA=>
  cond (!decide (d=oA)) (some (.out false)) (q5 b c bS (aw (a+1)))) (some (.go ()))
def wL(F:Nat)(a:List Kind)(b:List Kind):Option (Bool):=
 cond (!decide ((a.length:Int)=(b.length:Int))) (some false) (cr (α:=Unit) (q5 a b F 0) λ(_:Unit)=>
 some true)
def C5(b:List Field)(c:List Field):Nat->Int->Option (Way (Bool) (Unit))
 |0,_=>none
 |bS+1,a=>
  cond (decide (a<(b.length:Int))) ((idx b a).bind λ d=>
  (idx c a).bind λ oA=>
  cond (!decide (d=oA)) (some (.out false)) (C5 b c bS (aw (a+1)))) (some (.go ()))
def Ga(F:Nat)(a:List Field)(b:List Field):Option (Bool):=
 cond (!decide ((a.length:Int)=(b.length:Int))) (some false) (cr (α:=Unit) (C5 a b F 0) λ(_:Unit)=>
 some true)
def C4(b:Method)(e:Method):Nat->Int->Option (Way (Bool) (Unit))
 |0,_=>none
 |hY+1,a=>
  cond (decide (a<(b.cL.length:Int))) ((idx b.cL a).bind λ c=>
  (idx e.cL a).bind λ d=>
  cond (!decide (c=d)) (some (.out false)) (C4 b e hY (aw (a+1)))) (some (.go ()))
def C3(F:Nat)(d:aq)(f:aq):Nat->Int->Option (Way (Bool) (Unit))
 |0,_=>none
 |eM+1,c=>
  cond (decide (c<(d.bp.length:Int))) (df (α:=Unit) ((idx d.bp c).bind λ a=>
  (idx f.bp c).bind λ b=>
  cond ((!decide (a.Name=b.Name))||(!(a.Static==b.Static))) (some (.out false)) ((wL F a.cF b.cF).bind λ e=>
  cond (!e) (some (.out false)) (cond (((((!decide ((⟨a.Returns.Kind,a.Returns.aq⟩:Kind)=(⟨b.Returns.Kind,b.Returns.aq⟩:Kind)))||(!decide (a.ia=b.ia)))||(!decide (a.h9=b.h9)))||(!decide (a.Code=b.Code)))||(!decide ((a.cL.length:Int)=(b.cL.length:Int)))) (some (.out false)) (df (α:=Unit) (C4 a b F 0) λ(_:Unit)=>
  some (.go ()))))) λ(_:Unit)=>
  C3 F d f eM (aw (c+1))) (some (.go ()))
def C2(F:Nat)(d:List aq)(f:List aq):Nat->Int->Option (Way (Bool) (Unit))
 |0,_=>none
 |bS+1,c=>
  cond (decide (c<(d.length:Int))) (df (α:=Unit) ((idx d c).bind λ a=>
  (idx f c).bind λ b=>
  cond ((!decide (a.Name=b.Name))||(!decide (a.dc=b.dc))) (some (.out false)) ((Ga F a.Fields b.Fields).bind λ e=>
  cond ((!e)||(!decide ((a.bp.length:Int)=(b.bp.length:Int)))) (some (.out false)) (df (α:=Unit) (C3 F a b F 0) λ(_:Unit)=>
  some (.go ())))) λ(_:Unit)=>
  C2 F d f bS (aw (c+1))) (some (.go ()))
def F_(F:Nat)(a:List aq)(b:List aq):Option (Bool):=
 cond (!decide ((a.length:Int)=(b.length:Int))) (some false) (cr (α:=Unit) (C2 F a b F 0) λ(_:Unit)=>
 some true)
def zy(b:aP)(e:aP):Nat->Int->Option (Way (Bool) (Unit))
 |0,_=>none
 |bS+1,a=>
  cond (decide (a<(b.aY.length:Int))) ((idx b.aY a).bind λ c=>
  (idx e.aY a).bind λ d=>
  cond (!decide (c=d)) (some (.out false)) (zy b e bS (aw (a+1)))) (some (.go ()))
def C6(F:Nat)(b:aP)(f:aP):Nat->Int->Option (Way (Bool) (Unit))
 |0,_=>none
 |eM+1,a=>
  cond (decide (a<(b.Fields.length:Int))) ((idx b.Fields a).bind λ c=>
  (idx f.Fields a).bind λ d=>
  (Ga F c d).bind λ e=>
  cond (!e) (some (.out false)) (C6 F b f eM (aw (a+1)))) (some (.go ()))
def C8(c:aP)(i:aP)(a:Int):Nat->Int->Option (Way (Bool) (Unit))
 |0,_=>none
 |mP+1,b=>
  (idx c.Names a).bind λ d=>
  cond (decide (b<(d.length:Int))) ((idx c.Names a).bind λ e=>
  (idx e b).bind λ f=>
  (idx i.Names a).bind λ g=>
  (idx g b).bind λ h=>
  cond (!decide (f=h)) (some (.out false)) (C8 c i a mP (aw (b+1)))) (some (.go ()))
def C7(F:Nat)(b:aP)(c:aP):Nat->Int->Option (Way (Bool) (Unit))
 |0,_=>none
 |hY+1,a=>
  cond (decide (a<(b.Names.length:Int))) (df (α:=Unit) ((idx b.Names a).bind λ d=>
  (idx c.Names a).bind λ e=>
  cond (!decide ((d.length:Int)=(e.length:Int))) (some (.out false)) (df (α:=Unit) (C8 b c a F 0) λ(_:Unit)=>
  some (.go ()))) λ(_:Unit)=>
  C7 F b c hY (aw (a+1))) (some (.go ()))
def C_(c:aP)(i:aP)(a:Int):Nat->Int->Option (Way (Bool) (Unit))
 |0,_=>none
 |AD+1,b=>
  (idx c.aZ a).bind λ d=>
  cond (decide (b<(d.length:Int))) ((idx c.aZ a).bind λ e=>
  (idx e b).bind λ f=>
  (idx i.aZ a).bind λ g=>
  (idx g b).bind λ h=>
  cond (!decide (f=h)) (some (.out false)) (C_ c i a AD (aw (b+1)))) (some (.go ()))
def C9(F:Nat)(b:aP)(c:aP):Nat->Int->Option (Way (Bool) (Unit))
 |0,_=>none
 |vl+1,a=>
  cond (decide (a<(b.aZ.length:Int))) (df (α:=Unit) ((idx b.aZ a).bind λ d=>
  (idx c.aZ a).bind λ e=>
  cond (!decide ((d.length:Int)=(e.length:Int))) (some (.out false)) (df (α:=Unit) (C_ b c a F 0) λ(_:Unit)=>
  some (.go ()))) λ(_:Unit)=>
  C9 F b c vl (aw (a+1))) (some (.go ()))
def Gb(F:Nat)(a:aP)(b:aP):Option (Bool):=
 (F_ F a.a1 b.a1).bind λ c=>
 cond (((((!c)||(!decide ((b.aY.length:Int)=(a.aY.length:Int))))||(!decide ((a.Fields.length:Int)=(b.Fields.length:Int))))||(!decide ((a.Names.length:Int)=(b.Names.length:Int))))||(!decide ((a.aZ.length:Int)=(b.aZ.length:Int)))) (some false) (cr (α:=Unit) (zy a b F 0) λ(_:Unit)=>
 cr (α:=Unit) (C6 F a b F 0) λ(_:Unit)=>
 cr (α:=Unit) (C7 F a b F 0) λ(_:Unit)=>
 cr (α:=Unit) (C9 F a b F 0) λ(_:Unit)=>
 some true)
def CU(b:List aq)(d:List UInt8):Nat->Int->Option (Way (Int) (Unit))
 |0,_=>none
 |bS+1,a=>
  cond (decide (a<(b.length:Int))) ((idx b a).bind λ c=>
  cond (decide (c.Name=d)) (some (.out a)) (CU b d bS (aw (a+1)))) (some (.go ()))
def pO(F:Nat)(a:List aq)(b:List UInt8):Option (Int):=
 cr (α:=Unit) (CU a b F 0) λ(_:Unit)=>
 some (-1)
def Dc(F:Nat)(a:List aq):Nat->Int->(List Int)->Option (Way (List Int) (List Int))
 |0,_,_=>none
 |bS+1,b,c=>
  cond (decide (0<=b)) (cond (decide ((a.length:Int)<(c.length:Int))) (some (.out [])) ((bI 8 [b] c).bind λ d=>
  (idx a b).bind λ e=>
  (pO F a e.dc).bind λ f=>
  Dc F a bS f d)) (some (.go c))
def zB(F:Nat)(b:List aq)(c:Int):Option (List Int):=
 cr (α:=List Int) (Dc F b F c []) λ(a:List Int)=>
 some a
def zA(F:Nat)(a:List Kind)(c:List aq):Nat->Int->Option (Way (Bool) (Unit))
 |0,_=>none
 |bS+1,b=>
  cond (decide (b<(a.length:Int))) ((idx a b).bind λ d=>
  cond (!decide (d.aq=[])) ((idx a b).bind λ e=>
  (pO F c e.aq).bind λ f=>
  cond (decide (f<0)) (some (.out false)) (zA F a c bS (aw (b+1)))) (zA F a c bS (aw (b+1)))) (some (.go ()))
def Db(F:Nat)(a:List aq)(b:List Kind):Option (Bool):=
 cr (α:=Unit) (zA F b a F 0) λ(_:Unit)=>
 some true
def uE(g:List aq)(b:List Int):Nat->(List Field)->Int->Option (List Field)
 |0,_,_=>none
 |bS+1,a,c=>
  cond (decide (c<(b.length:Int))) ((idx b c).bind λ d=>
  (idx g d).bind λ e=>
  (bI 40 a e.Fields).bind λ f=>
  uE g b bS f (aw (c+1))) (some a)
def CB(F:Nat)(b:List aq)(c:Int):Option (List Field):=
 (zB F b c).bind λ d=>
 ej (α:=List Field) (uE b d F [] 0) λ(a:List Field)=>
 some a
def sA(b:List (List UInt8))(d:Method):Nat->Int->Option (Int)
 |0,_=>none
 |hY+1,a=>
  cond (decide (a<(b.length:Int))) ((idx b a).bind λ c=>
  cond (!decide (c=d.Name)) (sA b d hY (aw (a+1))) (some a)) (some a)
def Da(F:Nat)(f:List aq)(c:List Int)(d:Int):Nat->(List Target)->(List (List UInt8))->Int->Option ((List Target)×(List (List UInt8)))
 |0,_,_,_=>none
 |eM+1,g,a,e=>
  (idx c d).bind λ h=>
  (idx f h).bind λ i=>
  cond (decide (e<(i.bp.length:Int))) (ej (α:=(List Target)×(List (List UInt8))) ((idx c d).bind λ j=>
  (idx f j).bind λ k=>
  (idx k.bp e).bind λ t=>
  ej (α:=Int) (sA a t F 0) λ(l:Int)=>
  ej (α:=(List Target)×(List (List UInt8))) (cond (decide (l=(a.length:Int))) ((bI 16 a [t.Name]).bind λ m=>
  (bI 16 g [(⟨0,0⟩:Target)]).bind λ n=>
  some (n,m)) (some (g,a))) λ((b,o):(List Target)×(List (List UInt8)))=>
  (idx c d).bind λ p=>
  (idx b l).bind λ u=>
  (some (b.set (l).toNat (⟨p,e⟩:Target))).bind λ q=>
  some (q,o)) λ((r,s):(List Target)×(List (List UInt8)))=>
  Da F f c d eM r s (aw (e+1))) (some (g,a))
def C'(F:Nat)(i:List aq)(c:List Int):Nat->(List Target)->(List (List UInt8))->Int->Option ((List Target)×(List (List UInt8)))
 |0,_,_,_=>none
 |bS+1,a,b,d=>
  cond (decide (d<(c.length:Int))) (ej (α:=(List Target)×(List (List UInt8))) (ej (α:=(List Target)×(List (List UInt8))) (Da F i c d F a b 0) λ((e,f):(List Target)×(List (List UInt8)))=>
  some (e,f)) λ((g,h):(List Target)×(List (List UInt8)))=>
  C' F i c bS g h (aw (d+1))) (some (a,b))
def Ji(F:Nat)(c:List aq)(d:Int):Option ((List (List UInt8))×(List Target)):=
 (zB F c d).bind λ e=>
 ej (α:=(List Target)×(List (List UInt8))) (C' F c e F [] [] 0) λ((a,b):(List Target)×(List (List UInt8)))=>
 some (b,a)
def wH(F:Nat)(a:List aq):Nat->Int->Option (Way (Int) (Unit))
 |0,_=>none
 |bS+1,b=>
  cond (decide (b<(a.length:Int))) ((idx a b).bind λ c=>
  (pO F a c.Name).bind λ d=>
  cond (!decide (d=b)) (some (.out 6)) (wH F a bS (aw (b+1)))) (some (.go ()))
def CL(a:List aq):Nat->Int->Option (Way (Int) (Unit))
 |0,_=>none
 |eM+1,b=>
  cond (decide (b<(a.length:Int))) ((idx a b).bind λ c=>
  (idx a b).bind λ d=>
  cond (!((decide (c.Name=[79,98,106,101,99,116]))==(decide (d.dc=[])))) (some (.out 4)) (CL a eM (aw (b+1)))) (some (.go ()))
def zs(F:Nat)(a:List aq):Nat->Int->Option (Way (Int) (Unit))
 |0,_=>none
 |hY+1,b=>
  cond (decide (b<(a.length:Int))) ((idx a b).bind λ c=>
  cond (!decide (c.dc=[])) ((idx a b).bind λ d=>
  (pO F a d.dc).bind λ e=>
  cond (decide (e<0)) (some (.out 5)) (zs F a hY (aw (b+1)))) (zs F a hY (aw (b+1)))) (some (.go ()))
def CM(F:Nat)(a:List aq):Nat->Int->Option (Way (Int) (Unit))
 |0,_=>none
 |mP+1,b=>
  cond (decide (b<(a.length:Int))) ((zB F a b).bind λ c=>
  cond (decide ((c.length:Int)=0)) (some (.out 4)) (CM F a mP (aw (b+1)))) (some (.go ()))
def CN(F:Nat)(b:List aq)(c:Int):Nat->Int->Option (Way (Int) (Unit))
 |0,_=>none
 |AD+1,d=>
  (idx b c).bind λ e=>
  cond (decide (d<(e.Fields.length:Int))) ((idx b c).bind λ f=>
  (idx f.Fields d).bind λ a=>
  (Db F b [(⟨a.Kind.Kind,a.Kind.aq⟩:Kind)]).bind λ g=>
  cond (!g) (some (.out 5)) (CN F b c AD (aw (d+1)))) (some (.go ()))
def CP(F:Nat)(e:List aq)(a:Method):Nat->Int->Option (Way (Int) (Unit))
 |0,_=>none
 |X5+1,b=>
  cond (decide (b<(a.cL.length:Int))) ((idx a.cL b).bind λ c=>
  (pO F e c.aq).bind λ d=>
  cond (decide (d<0)) (some (.out 5)) (CP F e a X5 (aw (b+1)))) (some (.go ()))
def CO(F:Nat)(a:List aq)(c:Int):Nat->Int->Option (Way (Int) (Unit))
 |0,_=>none
 |Px+1,d=>
  (idx a c).bind λ e=>
  cond (decide (d<(e.bp.length:Int))) (df (α:=Unit) ((idx a c).bind λ f=>
  (idx f.bp d).bind λ b=>
  (Db F a b.cF).bind λ g=>
  cond (!g) (some (.out 5)) ((Db F a [(⟨b.Returns.Kind,b.Returns.aq⟩:Kind)]).bind λ h=>
  cond (!h) (some (.out 5)) (df (α:=Unit) (CP F a b F 0) λ(_:Unit)=>
  some (.go ())))) λ(_:Unit)=>
  CO F a c Px (aw (d+1))) (some (.go ()))
def zt(F:Nat)(a:List aq):Nat->Int->Option (Way (Int) (Unit))
 |0,_=>none
 |vl+1,b=>
  cond (decide (b<(a.length:Int))) (df (α:=Unit) (df (α:=Unit) (CN F a b F 0) λ(_:Unit)=>
  df (α:=Unit) (CO F a b F 0) λ(_:Unit)=>
  some (.go ())) λ(_:Unit)=>
  zt F a vl (aw (b+1))) (some (.go ()))
def CH(a:List Field)(b:Int):Nat->Int->Option (Way (Int) (Unit))
 |0,_=>none
 |aCz+1,c=>
  cond (decide (c<b)) ((idx a c).bind λ d=>
  (idx a b).bind λ e=>
  cond (decide (d.Name=e.Name)) (some (.out 6)) (CH a b aCz (aw (c+1)))) (some (.go ()))
def CG(F:Nat)(a:List Field):Nat->Int->Option (Way (Int) (Unit))
 |0,_=>none
 |aCy+1,b=>
  cond (decide (b<(a.length:Int))) (df (α:=Unit) (df (α:=Unit) (CH a b F 0) λ(_:Unit)=>
  some (.go ())) λ(_:Unit)=>
  CG F a aCy (aw (b+1))) (some (.go ()))
def uH(a:aq)(b:Int):Nat->Int->Option (Way (Int) (Unit))
 |0,_=>none
 |aCB+1,c=>
  cond (decide (c<b)) ((idx a.bp c).bind λ d=>
  (idx a.bp b).bind λ e=>
  cond (decide (d.Name=e.Name)) (some (.out 6)) (uH a b aCB (aw (c+1)))) (some (.go ()))
def uG(F:Nat)(a:aq):Nat->Int->Option (Way (Int) (Unit))
 |0,_=>none
 |aCA+1,b=>
  cond (decide (b<(a.bp.length:Int))) (df (α:=Unit) (df (α:=Unit) (uH a b F 0) λ(_:Unit)=>
  some (.go ())) λ(_:Unit)=>
  uG F a aCA (aw (b+1))) (some (.go ()))
def CQ(F:Nat)(a:List aq):Nat->Int->Option (Way (Int) (Unit))
 |0,_=>none
 |Py+1,b=>
  cond (decide (b<(a.length:Int))) (df (α:=Unit) ((CB F a b).bind λ c=>
  df (α:=Unit) (CG F c F 0) λ(_:Unit)=>
  (idx a b).bind λ d=>
  df (α:=Unit) (uG F d F 0) λ(_:Unit)=>
  some (.go ())) λ(_:Unit)=>
  CQ F a Py (aw (b+1))) (some (.go ()))
def zr(F:Nat)(a:List aq)(g:Int)(d:List Int)(e:Int)(h:Int):Nat->Int->Option (Way (Int) (Unit))
 |0,_=>none
 |ai2+1,f=>
  (idx d e).bind λ i=>
  (idx a i).bind λ j=>
  cond (decide (f<(j.bp.length:Int))) ((idx a g).bind λ k=>
  (idx k.bp h).bind λ b=>
  (idx d e).bind λ l=>
  (idx a l).bind λ m=>
  (idx m.bp f).bind λ c=>
  cond (decide (b.Name=c.Name)) (cond (b.Static||c.Static) (some (.out 4)) ((wL F b.cF c.cF).bind λ n=>
  cond (!n) (some (.out 4)) (cond (!decide ((⟨b.Returns.Kind,b.Returns.aq⟩:Kind)=(⟨c.Returns.Kind,c.Returns.aq⟩:Kind))) (some (.out 4)) (zr F a g d e h ai2 (aw (f+1)))))) (zr F a g d e h ai2 (aw (f+1)))) (some (.go ()))
def CK(F:Nat)(a:List aq)(b:Int)(e:List Int)(f:Int):Nat->Int->Option (Way (Int) (Unit))
 |0,_=>none
 |aCE+1,c=>
  (idx a b).bind λ d=>
  cond (decide (c<(d.bp.length:Int))) (df (α:=Unit) (df (α:=Unit) (zr F a b e f c F 0) λ(_:Unit)=>
  some (.go ())) λ(_:Unit)=>
  CK F a b e f aCE (aw (c+1))) (some (.go ()))
def CJ(F:Nat)(c:List aq)(d:Int)(a:List Int):Nat->Int->Option (Way (Int) (Unit))
 |0,_=>none
 |aCD+1,b=>
  cond (decide (b<(aw ((a.length:Int)-1)))) (df (α:=Unit) (df (α:=Unit) (CK F c d a b F 0) λ(_:Unit)=>
  some (.go ())) λ(_:Unit)=>
  CJ F c d a aCD (aw (b+1))) (some (.go ()))
def CI(F:Nat)(a:List aq):Nat->Int->Option (Way (Int) (Unit))
 |0,_=>none
 |aCC+1,b=>
  cond (decide (b<(a.length:Int))) (df (α:=Unit) ((zB F a b).bind λ c=>
  df (α:=Unit) (CJ F a b c F 0) λ(_:Unit)=>
  some (.go ())) λ(_:Unit)=>
  CI F a aCC (aw (b+1))) (some (.go ()))
def Jc(F:Nat)(a:List aq):Option (Int):=
 (Jb F a).bind λ h=>
 cond (!decide (h=0)) (some h) (cr (α:=Unit) (wH F a F 0) λ(_:Unit)=>
 (pO F a [79,98,106,101,99,116]).bind λ d=>
 cond (decide (d<0)) (some 5) ((pO F a [69,114,114,111,114]).bind λ e=>
 cond (decide (e<0)) (some 5) (cr (α:=Unit) (CL a F 0) λ(_:Unit)=>
 cr (α:=Unit) (zs F a F 0) λ(_:Unit)=>
 cr (α:=Unit) (CM F a F 0) λ(_:Unit)=>
 (pO F a [69,114,114,111,114]).bind λ b=>
 (CB F a b).bind λ c=>
 (idx a b).bind λ f=>
 cond ((!decide (f.dc=[79,98,106,101,99,116]))||(decide ((c.length:Int)=0))) (some 4) ((idx c 0).bind λ g=>
 cond (!decide (g.Kind.Kind=1)) (some 4) (cr (α:=Unit) (zt F a F 0) λ(_:Unit)=>
 cr (α:=Unit) (CQ F a F 0) λ(_:Unit)=>
 cr (α:=Unit) (CI F a F 0) λ(_:Unit)=>
 some 0)))))
def sy(F:Nat)(b:List aq):Nat->(List (List Target))->(List (List (List UInt8)))->(List (List Field))->(List Int)->Int->Option (Way (aP×Int) ((List (List Target))×(List (List (List UInt8)))×(List (List Field))×(List Int)))
 |0,_,_,_,_,_=>none
 |bS+1,k,Eo,l,m,c=>
  cond (decide (c<(b.length:Int))) ((CB F b c).bind λ d=>
  (Ji F b c).bind λ a=>
  cond ((decide (12<(d.length:Int)))||(decide (16<(a.1.length:Int)))) (some (.out ((⟨[],[],[],[],[]⟩:aP),2))) ((idx b c).bind λ e=>
  (pO F b e.dc).bind λ f=>
  (bI 8 m [f]).bind λ g=>
  (bI 24 l [d]).bind λ h=>
  (bI 24 Eo [a.1]).bind λ i=>
  (bI 24 k [a.2]).bind λ j=>
  sy F b bS j i h g (aw (c+1)))) (some (.go (k,Eo,l,m)))
def Jg(F:Nat)(a:List aq):Option (aP×Int):=
 (Jc F a).bind λ f=>
 cond (!decide (f=0)) (some ((⟨[],[],[],[],[]⟩:aP),f)) (cr (α:=(List (List Target))×(List (List (List UInt8)))×(List (List Field))×(List Int)) (sy F a F [] [] [] [] 0) λ((b,c,d,e):(List (List Target))×(List (List (List UInt8)))×(List (List Field))×(List Int))=>
 some ((⟨a,e,d,c,b⟩:aP),0))
def qg(a:bt):Nat->(List ((List UInt8)×Int))->Int->Option (Way (Int×bt) (List ((List UInt8)×Int)))
 |0,_,_=>none
 |bS+1,c,d=>
  cond (decide (d<(a.l.length:Int))) ((idx a.l d).bind λ b=>
  cond ((cE c b.Name).isSome) (some (.out (6,(⟨a.l,c,a.dB⟩:bt)))) (qg a bS (gy c b.Name d) (aw (d+1)))) (some (.go c))
def Hq(F:Nat)(a:bt):Option (Int×bt):=
 cr (α:=List ((List UInt8)×Int)) (qg a F a.b4 0) λ(b:List ((List UInt8)×Int))=>
 cond ((!((cE b [79,98,106,101,99,116]).isSome))||(!((cE b [69,114,114,111,114]).isSome))) (some (5,(⟨a.l,b,a.dB⟩:bt))) (some (0,(⟨a.l,b,a.dB⟩:bt)))
def x5(a:bt):Nat->Int->Option (Way (Int×bt) (Unit))
 |0,_=>none
 |bS+1,c=>
  cond (decide (c<(a.l.length:Int))) ((idx a.l c).bind λ b=>
  cond (!((decide (b.Name=[79,98,106,101,99,116]))==(decide (b.dc=[])))) (some (.out (4,(⟨a.l,a.b4,a.dB⟩:bt)))) (x5 a bS (aw (c+1)))) (some (.go ()))
def nV(a:bt):Nat->(List Int)->Int->Option (Way (Int×bt) (List Int))
 |0,_,_=>none
 |eM+1,vn,c=>
  cond (decide (c<(a.l.length:Int))) (df (α:=List Int) ((idx a.l c).bind λ b=>
  df (α:=Int) (df (α:=Int) (cond (decide (b.dc=[])) (some (.go (-1))) (cond (!((cE a.b4 b.dc).isSome)) (some (.out (5,(⟨a.l,a.b4,vn⟩:bt)))) (some (.go ((cE a.b4 b.dc).getD 0))))) λ(d:Int)=>
  some (.go d)) λ(e:Int)=>
  (bI 8 vn [e]).bind λ f=>
  some (.go f)) λ(g:List Int)=>
  nV a eM g (aw (c+1))) (some (.go vn))
def vr(b:bt)(c:List Int):Nat->Int->Int->Option (Int)
 |0,_,_=>none
 |mP+1,d,e=>
  cond (decide (e<(b.l.length:Int))) ((idx c d).bind λ a=>
  cond (decide (a<0)) (some a) (vr b c mP a (aw (e+1)))) (some d)
def tr(F:Nat)(a:bt)(b:List Int):Nat->Int->Option (Way (Int×bt) (Unit))
 |0,_=>none
 |hY+1,c=>
  cond (decide (c<(a.l.length:Int))) (df (α:=Unit) (ej (α:=Int) (ej (α:=Int) (vr a b F c 0) λ(d:Int)=>
  some d) λ(e:Int)=>
  cond (decide (0<=e)) (some (.out (4,(⟨a.l,a.b4,b⟩:bt)))) (some (.go ()))) λ(_:Unit)=>
  tr F a b hY (aw (c+1))) (some (.go ()))
def PQ(F:Nat)(a:bt):Option (Int×bt):=
 cr (α:=Unit) (x5 a F 0) λ(_:Unit)=>
 cr (α:=List Int) (nV a F a.dB 0) λ(b:List Int)=>
 cr (α:=Unit) (tr F a b F 0) λ(_:Unit)=>
 some (0,(⟨a.l,a.b4,b⟩:bt))
def tt(b:bt):Nat->(List Int)->Int->Option (List Int)
 |0,_,_=>none
 |bS+1,c,a=>
  cond (decide (0<=a)) ((bI 8 c [a]).bind λ d=>
  (idx b.dB a).bind λ e=>
  tt b bS d e) (some c)
def ts(F:Nat)(a:bt)(b:Int):Option (List Int):=
 ej (α:=List Int) (tt a F [] b) λ(c:List Int)=>
 some c
def L8(_:List Int):Option Unit:=some ()
def AK(b:bt):List Int->(List Field)->Option (List Field)
 |[],a=>some a
 |BX::c,a=>
  (idx b.l BX).bind λ d=>
  (bI 40 a d.Fields).bind λ e=>
  AK b c e
def vu(F:Nat)(a:bt)(c:Int):Option (List Field):=
 (ts F (⟨a.l,a.b4,a.dB⟩:bt) c).bind λ b=>
 (L8 b).bind λ d=>
 ej (α:=List Field) (AK a b.reverse []) λ(e:List Field)=>
 some e
def PR(F:Nat)(a:bt):Option (Int):=
 (vu F (⟨a.l,a.b4,a.dB⟩:bt) ((cE a.b4 [69,114,114,111,114]).getD 0)).bind λ d=>
 (idx a.l ((cE a.b4 [69,114,114,111,114]).getD 0)).bind λ b=>
 cond ((!decide (b.dc=[79,98,106,101,99,116]))||(decide ((d.length:Int)=0))) (some 4) ((idx d 0).bind λ c=>
 cond (!decide (c.Kind.Kind=1)) (some 4) (some 0))
def EB(b:Kind)(c:List (List UInt8)):Option (List (List UInt8)):=
 cond (!decide (b.aq=[])) ((bI 16 c [b.aq]).bind λ a=>
 some a) (some c)
def x8(b:aq):Nat->(List (List UInt8))->Int->Option (List (List UInt8))
 |0,_,_=>none
 |eM+1,e,c=>
  cond (decide (c<(b.Fields.length:Int))) ((idx b.Fields c).bind λ a=>
  (EB (⟨a.Kind.Kind,a.Kind.aq⟩:Kind) e).bind λ d=>
  x8 b eM d (aw (c+1))) (some e)
def x9(b:Method):Nat->(List (List UInt8))->Int->Option (List (List UInt8))
 |0,_,_=>none
 |mP+1,e,c=>
  cond (decide (c<(b.cF.length:Int))) ((idx b.cF c).bind λ a=>
  (EB (⟨a.Kind,a.aq⟩:Kind) e).bind λ d=>
  x9 b mP d (aw (c+1))) (some e)
def tz(a:Method):Nat->(List (List UInt8))->Int->Option (List (List UInt8))
 |0,_,_=>none
 |vl+1,e,b=>
  cond (decide (b<(a.cL.length:Int))) ((idx a.cL b).bind λ c=>
  (bI 16 e [c.aq]).bind λ d=>
  tz a vl d (aw (b+1))) (some e)
def tx(F:Nat)(b:aq):Nat->(List (List UInt8))->Int->Option (List (List UInt8))
 |0,_,_=>none
 |hY+1,g,vE=>
  cond (decide (vE<(b.bp.length:Int))) (ej (α:=List (List UInt8)) ((idx b.bp vE).bind λ a=>
  ej (α:=List (List UInt8)) (x9 a F g 0) λ(c:List (List UInt8))=>
  (EB (⟨a.Returns.Kind,a.Returns.aq⟩:Kind) c).bind λ d=>
  ej (α:=List (List UInt8)) (tz a F d 0) λ(e:List (List UInt8))=>
  some e) λ(f:List (List UInt8))=>
  tx F b hY f (aw (vE+1))) (some g)
def x7(F:Nat)(a:bt):Nat->(List (List UInt8))->Int->Option (List (List UInt8))
 |0,_,_=>none
 |bS+1,Ev,b=>
  cond (decide (b<(a.l.length:Int))) (ej (α:=List (List UInt8)) ((idx a.l b).bind λ f=>
  ej (α:=List (List UInt8)) (x8 f F Ev 0) λ(c:List (List UInt8))=>
  ej (α:=List (List UInt8)) (tx F f F c 0) λ(d:List (List UInt8))=>
  some d) λ(e:List (List UInt8))=>
  x7 F a bS e (aw (b+1))) (some Ev)
def AR(d:bt)(a:List (List UInt8)):Nat->Int->Option (Way (Int) (Unit))
 |0,_=>none
 |AD+1,b=>
  cond (decide (b<(a.length:Int))) ((idx a b).bind λ c=>
  cond (!((cE d.b4 c).isSome)) (some (.out 5)) (AR d a AD (aw (b+1)))) (some (.go ()))
def K_(F:Nat)(a:bt):Option (Int):=
 ej (α:=List (List UInt8)) (x7 F a F [] 0) λ(b:List (List UInt8))=>
 cr (α:=Unit) (AR a b F 0) λ(_:Unit)=>
 some 0
def AU(a:List (List UInt8)):Nat->(List ((List UInt8)×Bool))->Int->Option (List ((List UInt8)×Bool))
 |0,_,_=>none
 |bS+1,d,b=>
  cond (decide (b<(a.length:Int))) ((idx a b).bind λ c=>
  AU a bS (gy d c true) (aw (b+1))) (some d)
def Hs(F:Nat)(b:List (List UInt8)):Option (Bool):=
 ej (α:=List ((List UInt8)×Bool)) (AU b F [] 0) λ(a:List ((List UInt8)×Bool))=>
 some (decide ((a.length:Int)<(b.length:Int)))
def x6(a:List Field):Nat->(List (List UInt8))->Int->Option (List (List UInt8))
 |0,_,_=>none
 |eM+1,e,b=>
  cond (decide (b<(a.length:Int))) ((idx a b).bind λ c=>
  (bI 16 e [c.Name]).bind λ d=>
  x6 a eM d (aw (b+1))) (some e)
def tw(a:aq):Nat->(List (List UInt8))->Int->Option (List (List UInt8))
 |0,_,_=>none
 |hY+1,e,b=>
  cond (decide (b<(a.bp.length:Int))) ((idx a.bp b).bind λ c=>
  (bI 16 e [c.Name]).bind λ d=>
  tw a hY d (aw (b+1))) (some e)
def AO(F:Nat)(a:bt):Nat->Int->Option (Way (Int) (Unit))
 |0,_=>none
 |bS+1,b=>
  cond (decide (b<(a.l.length:Int))) (df (α:=Unit) ((idx a.l b).bind λ g=>
  (vu F (⟨a.l,a.b4,a.dB⟩:bt) b).bind λ h=>
  ej (α:=List (List UInt8)) (x6 h F [] 0) λ(c:List (List UInt8))=>
  ej (α:=List (List UInt8)) (tw g F [] 0) λ(d:List (List UInt8))=>
  (Hs F c).bind λ e=>
  cond (e) (some (.out 6)) ((Hs F d).bind λ f=>
  cond (f) (some (.out 6)) (some (.go ())))) λ(_:Unit)=>
  AO F a bS (aw (b+1))) (some (.go ()))
def K9(F:Nat)(a:bt):Option (Int):=
 cr (α:=Unit) (AO F a F 0) λ(_:Unit)=>
 some 0
def E4(b:List Kind)(c:List Kind):Nat->Int->Option (Way (Bool) (Unit))
 |0,_=>none
 |bS+1,a=>
  cond (decide (a<(b.length:Int))) ((idx b a).bind λ d=>
  (idx c a).bind λ oA=>
  cond (!decide (d=oA)) (some (.out false)) (E4 b c bS (aw (a+1)))) (some (.go ()))
def Md(F:Nat)(a:List Kind)(b:List Kind):Option (Bool):=
 cond (!decide ((a.length:Int)=(b.length:Int))) (some false) (cr (α:=Unit) (E4 a b F 0) λ(_:Unit)=>
 some true)
def PP(F:Nat)(a:Method)(b:Method):Option (Bool):=
 cond ((!a.Static)&&(!b.Static)) ((Md F a.cF b.cF).bind λ c=>
 cond (c) (some (decide ((⟨a.Returns.Kind,a.Returns.aq⟩:Kind)=(⟨b.Returns.Kind,b.Returns.aq⟩:Kind)))) (some false)) (some false)
def tu(F:Nat)(a:Method)(c:aq):Nat->Int->Option (Way (Int) (Unit))
 |0,_=>none
 |mP+1,d=>
  cond (decide (d<(c.bp.length:Int))) ((idx c.bp d).bind λ b=>
  cond (decide (a.Name=b.Name)) ((PP F (⟨a.Name,a.Static,a.cF,(⟨a.Returns.Kind,a.Returns.aq⟩:Kind),a.ia,a.h9,a.Code,a.cL⟩:Method) (⟨b.Name,b.Static,b.cF,(⟨b.Returns.Kind,b.Returns.aq⟩:Kind),b.ia,b.h9,b.Code,b.cL⟩:Method)).bind λ e=>
  cond (!e) (some (.out 4)) (tu F a c mP (aw (d+1)))) (tu F a c mP (aw (d+1)))) (some (.go ()))
def AN(F:Nat)(c:bt)(a:aq)(d:Int):Nat->Int->Option (Way (Int) (Unit))
 |0,_=>none
 |hY+1,b=>
  cond (decide (b<(a.bp.length:Int))) (df (α:=Unit) ((idx a.bp b).bind λ e=>
  (idx c.l d).bind λ f=>
  df (α:=Unit) (tu F e f F 0) λ(_:Unit)=>
  some (.go ())) λ(_:Unit)=>
  AN F c a d hY (aw (b+1))) (some (.go ()))
def AM(F:Nat)(c:bt)(d:aq)(a:List Int):Nat->Int->Option (Way (Int) (Unit))
 |0,_=>none
 |eM+1,b=>
  cond (decide (b<(a.length:Int))) (df (α:=Unit) ((idx a b).bind λ e=>
  df (α:=Unit) (AN F c d e F 0) λ(_:Unit)=>
  some (.go ())) λ(_:Unit)=>
  AM F c d a eM (aw (b+1))) (some (.go ()))
def AL(F:Nat)(a:bt):Nat->Int->Option (Way (Int) (Unit))
 |0,_=>none
 |bS+1,c=>
  cond (decide (c<(a.l.length:Int))) (df (α:=Unit) ((idx a.l c).bind λ d=>
  (ts F (⟨a.l,a.b4,a.dB⟩:bt) c).bind λ b=>
  (cut b 1 (b.length:Int)).bind λ e=>
  df (α:=Unit) (AM F a d e F 0) λ(_:Unit)=>
  some (.go ())) λ(_:Unit)=>
  AL F a bS (aw (c+1))) (some (.go ()))
def K8(F:Nat)(a:bt):Option (Int):=
 cr (α:=Unit) (AL F a F 0) λ(_:Unit)=>
 some 0
def abh(s_:List Field):Option (List Field):=
 (bI 40 ([]:List Field) s_).bind λ a=>
 some a
def abk(s_:List Method):Option (List Method):=
 (bI 128 ([]:List Method) s_).bind λ a=>
 some a
def abj(s_:List Kind):Option (List Kind):=
 (bI 24 ([]:List Kind) s_).bind λ a=>
 some a
def abi(s_:List Handler):Option (List Handler):=
 (bI 40 ([]:List Handler) s_).bind λ a=>
 some a
def vv:Nat->(List Method)->Int->Int->Option (List Method)
 |0,_,_,_=>none
 |eM+1,g,d,c=>
  cond (decide (c<d)) ((idx g c).bind λ e=>
  (abj e.cF).bind λ h=>
  (abi e.cL).bind λ i=>
  (idx g c).bind λ a=>
  (some (g.set (c).toNat (⟨a.Name,a.Static,h,(⟨a.Returns.Kind,a.Returns.aq⟩:Kind),a.ia,a.h9,a.Code,a.cL⟩:Method))).bind λ f=>
  (idx f c).bind λ b=>
  (some (f.set (c).toNat (⟨b.Name,b.Static,b.cF,(⟨b.Returns.Kind,b.Returns.aq⟩:Kind),b.ia,b.h9,b.Code,i⟩:Method))).bind λ j=>
  vv eM j d (aw (c+1))) (some g)
def tA(F:Nat)(c:List aq):Nat->(List aq)->Int->Option (List aq)
 |0,_,_=>none
 |bS+1,i,d=>
  cond (decide (d<(c.length:Int))) (ej (α:=List aq) ((idx c d).bind λ b=>
  (abh b.Fields).bind λ e=>
  (abk b.bp).bind λ a=>
  ej (α:=List Method) (vv F a (a.length:Int) 0) λ(f:List Method)=>
  (bI 80 i [(⟨b.Name,b.dc,e,f⟩:aq)]).bind λ g=>
  some g) λ(h:List aq)=>
  tA F c bS h (aw (d+1))) (some i)
def K'(F:Nat)(b:List aq):Option (List aq):=
 ej (α:=List aq) (tA F b F [] 0) λ(a:List aq)=>
 some a
def BH(s_:List (List UInt8))(b:List UInt8):Nat->Int->Option (Way (Int) (Unit))
 |0,_=>none
 |bS+1,a=>
  cond (decide (a<(s_.length:Int))) ((idx s_ a).bind λ c=>
  cond (decide (b=c)) (some (.out a)) (BH s_ b bS (aw (a+1)))) (some (.go ()))
def Mi(F:Nat)(s_:List (List UInt8))(a:List UInt8):Option (Int):=
 cr (α:=Unit) (BH s_ a F 0) λ(_:Unit)=>
 some (-1)
def AQ(F:Nat)(d:Int)(e:aq):Nat->(List (List UInt8))->(List Target)->Int->Option ((List (List UInt8))×(List Target))
 |0,_,_,_=>none
 |eM+1,b,c,a=>
  cond (decide (a<(e.bp.length:Int))) (ej (α:=(List (List UInt8))×(List Target)) ((idx e.bp a).bind λ gn=>
  (Mi F b gn.Name).bind λ E1=>
  cond (decide (0<=E1)) ((idx c E1).bind λ f=>
  (some (c.set (E1).toNat (⟨d,a⟩:Target))).bind λ g=>
  some (b,g)) ((bI 16 b [gn.Name]).bind λ h=>
  (bI 16 c [(⟨d,a⟩:Target)]).bind λ i=>
  some (h,i))) λ((j,k):(List (List UInt8))×(List Target))=>
  AQ F d e eM j k (aw (a+1))) (some (b,c))
def AP(F:Nat)(b:bt):List Int->(List (List UInt8))->(List Target)->Option ((List (List UInt8))×(List Target))
 |[],mc,a=>some (mc,a)
 |fb::c,mc,a=>
  ej (α:=(List (List UInt8))×(List Target)) ((idx b.l fb).bind λ d=>
  ej (α:=(List (List UInt8))×(List Target)) (AQ F fb d F mc a 0) λ((e,f):(List (List UInt8))×(List Target))=>
  some (e,f)) λ((g,h):(List (List UInt8))×(List Target))=>
  AP F b c g h
def EA(F:Nat)(a:bt)(c:Int):Option ((List (List UInt8))×(List Target)):=
 (ts F (⟨a.l,a.b4,a.dB⟩:bt) c).bind λ b=>
 (L8 b).bind λ e=>
 ej (α:=(List (List UInt8))×(List Target)) (AP F a b.reverse [] []) λ((mc,d):(List (List UInt8))×(List Target))=>
 some (mc,d)
def pb(F:Nat)(d:List aq)(e:Int×bt)(f:Int×bt):Nat->(List (List Target))->(List (List (List UInt8)))->(List (List Field))->Int->Option (Way (aP×Int) ((List (List Target))×(List (List (List UInt8)))×(List (List Field))))
 |0,_,_,_,_=>none
 |bS+1,k,l,m,b=>
  cond (decide (b<(d.length:Int))) ((EA F (⟨d,e.2.b4,f.2.dB⟩:bt) b).bind λ a=>
  (vu F (⟨d,e.2.b4,f.2.dB⟩:bt) b).bind λ g=>
  (bI 24 m [g]).bind λ c=>
  (bI 24 l [a.1]).bind λ h=>
  (bI 24 k [a.2]).bind λ i=>
  (idx c b).bind λ j=>
  cond ((decide (12<(j.length:Int)))||(decide (16<(a.1.length:Int)))) (some (.out ((⟨[],[],[],[],[]⟩:aP),2))) (pb F d e f bS i h c (aw (b+1)))) (some (.go (k,l,m)))
def Ez(F:Nat)(e:List aq):Option (aP×Int):=
 (KV F e).bind λ f=>
 cond (!decide (f=0)) (some ((⟨[],[],[],[],[]⟩:aP),f)) ((K' F e).bind λ a=>
 (Hq F (⟨a,[],[]⟩:bt)).bind λ b=>
 cond (!decide (b.1=0)) (some ((⟨[],[],[],[],[]⟩:aP),b.1)) ((PQ F (⟨a,b.2.b4,[]⟩:bt)).bind λ c=>
 cond (!decide (c.1=0)) (some ((⟨[],[],[],[],[]⟩:aP),c.1)) ((PR F (⟨a,b.2.b4,c.2.dB⟩:bt)).bind λ g=>
 cond (!decide (g=0)) (some ((⟨[],[],[],[],[]⟩:aP),g)) ((K_ F (⟨a,b.2.b4,c.2.dB⟩:bt)).bind λ pk=>
 cond (!decide (pk=0)) (some ((⟨[],[],[],[],[]⟩:aP),pk)) ((K9 F (⟨a,b.2.b4,c.2.dB⟩:bt)).bind λ h=>
 cond (!decide (h=0)) (some ((⟨[],[],[],[],[]⟩:aP),h)) ((K8 F (⟨a,b.2.b4,c.2.dB⟩:bt)).bind λ d=>
 cond (!decide (d=0)) (some ((⟨[],[],[],[],[]⟩:aP),d)) (cr (α:=(List (List Target))×(List (List (List UInt8)))×(List (List Field))) (pb F a b c F [] [] [] 0) λ((i,j,k):(List (List Target))×(List (List (List UInt8)))×(List (List Field)))=>
 some ((⟨a,c.2.dB,k,j,i⟩:aP),0))))))))
def BC(b:List Int)(c:List Int):Nat->Int->Option (Way (Bool) (Unit))
 |0,_=>none
 |bS+1,a=>
  cond (decide (a<(b.length:Int))) ((idx b a).bind λ d=>
  (idx c a).bind λ oA=>
  cond (!decide (d=oA)) (some (.out false)) (BC b c bS (aw (a+1)))) (some (.go ()))
def Mg(F:Nat)(a:List Int)(b:List Int):Option (Bool):=
 cond (!decide ((a.length:Int)=(b.length:Int))) (some false) (cr (α:=Unit) (BC a b F 0) λ(_:Unit)=>
 some true)
def BA(b:List Field)(c:List Field):Nat->Int->Option (Way (Bool) (Unit))
 |0,_=>none
 |bS+1,a=>
  cond (decide (a<(b.length:Int))) ((idx b a).bind λ d=>
  (idx c a).bind λ oA=>
  cond (!decide (d=oA)) (some (.out false)) (BA b c bS (aw (a+1)))) (some (.go ()))
def Mc(F:Nat)(a:List Field)(b:List Field):Option (Bool):=
 cond (!decide ((a.length:Int)=(b.length:Int))) (some false) (cr (α:=Unit) (BA a b F 0) λ(_:Unit)=>
 some true)
def Bx(F:Nat)(b:List (List Field))(c:List (List Field)):Nat->Int->Option (Way (Bool) (Unit))
 |0,_=>none
 |bS+1,a=>
  cond (decide (a<(b.length:Int))) ((idx b a).bind λ d=>
  (idx c a).bind λ e=>
  (Mc F d e).bind λ f=>
  cond (!f) (some (.out false)) (Bx F b c bS (aw (a+1)))) (some (.go ()))
def L_(F:Nat)(a:List (List Field))(b:List (List Field)):Option (Bool):=
 cond (!decide ((a.length:Int)=(b.length:Int))) (some false) (cr (α:=Unit) (Bx F a b F 0) λ(_:Unit)=>
 some true)
def BD(b:List (List UInt8))(c:List (List UInt8)):Nat->Int->Option (Way (Bool) (Unit))
 |0,_=>none
 |bS+1,a=>
  cond (decide (a<(b.length:Int))) ((idx b a).bind λ d=>
  (idx c a).bind λ oA=>
  cond (!decide (d=oA)) (some (.out false)) (BD b c bS (aw (a+1)))) (some (.go ()))
def Mh(F:Nat)(a:List (List UInt8))(b:List (List UInt8)):Option (Bool):=
 cond (!decide ((a.length:Int)=(b.length:Int))) (some false) (cr (α:=Unit) (BD a b F 0) λ(_:Unit)=>
 some true)
def Bz(F:Nat)(b:List (List (List UInt8)))(c:List (List (List UInt8))):Nat->Int->Option (Way (Bool) (Unit))
 |0,_=>none
 |bS+1,a=>
  cond (decide (a<(b.length:Int))) ((idx b a).bind λ d=>
  (idx c a).bind λ e=>
  (Mh F d e).bind λ f=>
  cond (!f) (some (.out false)) (Bz F b c bS (aw (a+1)))) (some (.go ()))
def Mb(F:Nat)(a:List (List (List UInt8)))(b:List (List (List UInt8))):Option (Bool):=
 cond (!decide ((a.length:Int)=(b.length:Int))) (some false) (cr (α:=Unit) (Bz F a b F 0) λ(_:Unit)=>
 some true)
def BB(b:List Target)(c:List Target):Nat->Int->Option (Way (Bool) (Unit))
 |0,_=>none
 |bS+1,a=>
  cond (decide (a<(b.length:Int))) ((idx b a).bind λ d=>
  (idx c a).bind λ oA=>
  cond (!decide (d=oA)) (some (.out false)) (BB b c bS (aw (a+1)))) (some (.go ()))
def Mf(F:Nat)(a:List Target)(b:List Target):Option (Bool):=
 cond (!decide ((a.length:Int)=(b.length:Int))) (some false) (cr (α:=Unit) (BB a b F 0) λ(_:Unit)=>
 some true)
def By(F:Nat)(b:List (List Target))(c:List (List Target)):Nat->Int->Option (Way (Bool) (Unit))
 |0,_=>none
 |bS+1,a=>
  cond (decide (a<(b.length:Int))) ((idx b a).bind λ d=>
  (idx c a).bind λ e=>
  (Mf F d e).bind λ f=>
  cond (!f) (some (.out false)) (By F b c bS (aw (a+1)))) (some (.go ()))
def Ma(F:Nat)(a:List (List Target))(b:List (List Target)):Option (Bool):=
 cond (!decide ((a.length:Int)=(b.length:Int))) (some false) (cr (α:=Unit) (By F a b F 0) λ(_:Unit)=>
 some true)
def Hr(F:Nat)(a:aP)(b:aP):Option (Bool):=
 (Mg F a.aY b.aY).bind λ c=>
 cond (c) ((L_ F a.Fields b.Fields).bind λ e=>
 cond (e) ((Mb F a.Names b.Names).bind λ f=>
 cond (f) ((Ma F a.aZ b.aZ).bind λ d=>
 some d) (some false)) (some false)) (some false)
def pa(F:Nat)(a:aP):Option (Int):=
 (Ez F a.a1).bind λ b=>
 cond (!decide (b.2=0)) (some 4) ((Hr F (⟨a.a1,a.aY,a.Fields,a.Names,a.aZ⟩:aP) (⟨b.1.a1,b.1.aY,b.1.Fields,b.1.Names,b.1.aZ⟩:aP)).bind λ c=>
 cond (!c) (some 4) (some 0))
def adW:Option (List aq):=some [(⟨[79,98,106,101,99,116],[],[],[(⟨[109,97,105,110],true,[],(⟨0,[]⟩:Kind),2,0,[1,0,7,31,27],[]⟩:Method)]⟩:aq),(⟨[69,114,114,111,114],[79,98,106,101,99,116],[(⟨[99,111,100,101],(⟨1,[]⟩:Kind)⟩:Field)],[]⟩:aq)]
def uI(F:Nat)(a:aP):Option (Int):=
 (Jg F a.a1).bind λ b=>
 cond (!decide (b.2=0)) (some 4) ((Gb F (⟨a.a1,a.aY,a.Fields,a.Names,a.aZ⟩:aP) (⟨b.1.a1,b.1.aY,b.1.Fields,b.1.Names,b.1.aZ⟩:aP)).bind λ c=>
 cond (!c) (some 4) (some 0))
def p5(a:Int)(b:Int)(c:Int):Option (Bool):=some ((decide (b<=a))&&(decide (a<=c)))
def ahX(a:Int)(b:Int):Option (aV×Int):=
 (p5 a 3 2000).bind λ c=>
 cond (!c) (some ((⟨[],0,0,0,0,[],0⟩:aV),3)) ((p5 b 3 2000).bind λ d=>
 cond (!d) (some ((⟨[],0,0,0,0,[],0⟩:aV),3)) ((x' (0 :Int) 8 (aw ((aw (1+a))+b))).bind λ e=>
 some ((⟨e,a,b,1,aw (a+1),[],1⟩:aV),0)))
def s6(s_:b9)(a:Int):Option (Bool):=
 cond ((decide (a=1))||(decide (a=2))) (some true) ((p5 a 3 (aw ((aw (3+(s_.K.a1.length:Int)))-1))).bind λ b=>
 some b)
def s7(s_:b9)(b:Int)(c:Int):Option (Bool):=
 (p5 c 0 500).bind λ d=>
 cond (d) (cond (decide (b<3)) (some true) ((idx s_.K.Fields (aw (b-3))).bind λ a=>
 some (decide (c=(a.length:Int))))) (some false)
def rr(s_:b9)(a:Int)(d:Int):Option (Bool):=
 cond (decide (a=2)) (some true) (cond (decide (3<=a)) ((idx s_.K.Fields (aw (a-3))).bind λ b=>
 (idx b d).bind λ c=>
 some (!decide (c.Kind.Kind=1))) (some false))
def Am(s_:b9)(a:Int)(b:Int):Option (Int):=
 (s6 (⟨(⟨s_.K.a1,s_.K.aY,s_.K.Fields,s_.K.Names,s_.K.aZ⟩:aP)⟩:b9) a).bind λ c=>
 cond (!c) (some 7) ((s7 (⟨(⟨s_.K.a1,s_.K.aY,s_.K.Fields,s_.K.Names,s_.K.aZ⟩:aP)⟩:b9) a b).bind λ d=>
 cond (!d) (some 3) (some 0))
def G0(a:aV):Option (Int):=
 (p5 a.ak 3 2000).bind λ c=>
 cond (!c) (some 3) ((p5 a.aK 3 2000).bind λ d=>
 cond (!d) (some 3) (cond (!decide ((a.Words.length:Int)=(aw ((aw (1+a.ak))+a.aK)))) (some 1) ((p5 a.aO 1 (aw (a.ak+1))).bind λ e=>
 cond (!e) (some 3) ((p5 a.aM (aw (a.ak+1)) (aw ((aw (a.ak+a.aK))+1))).bind λ b=>
 cond ((!b)||(decide (a.Next<1))) (some 3) (some 0)))))
def GV(a:bk)(at_:Int):Option (Bool):=some ((decide (0<at_))&&(decide (at_<=a.H.ak)))
def GU(a:bk)(at_:Int):Option (Bool):=some ((cE a.dQ at_).getD false)
def p4(f:Int)(a:bk):Nat->(List Int)->(List (Int×Bool))->Int->Option (Way ((List Int)×Bool×bk) ((List Int)×(List (Int×Bool))))
 |0,_,_,_=>none
 |bS+1,j,d,b=>
  cond (decide (b<f)) (cond (decide (f<(aw (b+3)))) (some (.out ([],false,(⟨(⟨a.H.Words,a.H.ak,a.H.aK,a.H.aO,a.H.aM,a.H.aU,a.H.Next⟩:aV),(⟨(⟨a.S.K.a1,a.S.K.aY,a.S.K.Fields,a.S.K.Names,a.S.K.aZ⟩:aP)⟩:b9),a.ak,a.aK,d⟩:bk)))) ((idx a.H.Words b).bind λ e=>
  (idx a.H.Words (aw (b+1))).bind λ c=>
  (s6 (⟨(⟨a.S.K.a1,a.S.K.aY,a.S.K.Fields,a.S.K.Names,a.S.K.aZ⟩:aP)⟩:b9) e).bind λ g=>
  cond (!g) (some (.out ([],false,(⟨(⟨a.H.Words,a.H.ak,a.H.aK,a.H.aO,a.H.aM,a.H.aU,a.H.Next⟩:aV),(⟨(⟨a.S.K.a1,a.S.K.aY,a.S.K.Fields,a.S.K.Names,a.S.K.aZ⟩:aP)⟩:b9),a.ak,a.aK,d⟩:bk)))) ((s7 (⟨(⟨a.S.K.a1,a.S.K.aY,a.S.K.Fields,a.S.K.Names,a.S.K.aZ⟩:aP)⟩:b9) e c).bind λ h=>
  cond ((!h)||(decide (f<(aw ((aw (b+3))+c))))) (some (.out ([],false,(⟨(⟨a.H.Words,a.H.ak,a.H.aK,a.H.aO,a.H.aM,a.H.aU,a.H.Next⟩:aV),(⟨(⟨a.S.K.a1,a.S.K.aY,a.S.K.Fields,a.S.K.Names,a.S.K.aZ⟩:aP)⟩:b9),a.ak,a.aK,d⟩:bk)))) ((bI 8 j [b]).bind λ i=>
  p4 f a bS i (gy d b true) (aw (b+(aw (3+c)))))))) (some (.go (j,d)))
def nJ(F:Nat)(a:bk)(b:Int)(e:Int):Option ((List Int)×Bool×bk):=
 cr (α:=(List Int)×(List (Int×Bool))) (p4 e a F [] a.dQ b) λ((c,d):(List Int)×(List (Int×Bool)))=>
 some (c,true,(⟨(⟨a.H.Words,a.H.ak,a.H.aK,a.H.aO,a.H.aM,a.H.aU,a.H.Next⟩:aV),(⟨(⟨a.S.K.a1,a.S.K.aY,a.S.K.Fields,a.S.K.Names,a.S.K.aZ⟩:aP)⟩:b9),a.ak,a.aK,d⟩:bk))
def xp(at_:Int)(a:bk)(h:Int):Nat->(List Int)->Int->Option (List Int)
 |0,_,_=>none
 |bS+1,c,b=>
  cond (decide (b<h)) (ej (α:=List Int) ((idx a.H.Words at_).bind λ d=>
  (rr (⟨(⟨a.S.K.a1,a.S.K.aY,a.S.K.Fields,a.S.K.Names,a.S.K.aZ⟩:aP)⟩:b9) d b).bind λ e=>
  cond (e) ((bI 8 c [aw ((aw (at_+3))+b)]).bind λ f=>
  some f) (some c)) λ(g:List Int)=>
  xp at_ a h bS g (aw (b+1))) (some c)
def ru(F:Nat)(b:bk)(at_:Int):Option (List Int):=
 (idx b.H.Words (aw (at_+1))).bind λ c=>
 ej (α:=List Int) (xp at_ b c F [] 0) λ(a:List Int)=>
 some a
def Rp(a:Int):Option (List Int):=
 ej (α:=Unit) (cond (decide (a<0)) ((none:Option (Unit))) (some ())) λ(_:Unit)=>
 cond (decide (0<(aw (a-0)))) ((Jo (0 :Int) 8 (aw (a-0))).bind λ b=>
 some ([]:List Int)) (some [])
def yx(b:List (List Int)):Nat->Int->Int->Option (Int)
 |0,_,_=>none
 |bS+1,c,d=>
  cond (decide (d<(b.length:Int))) (ej (α:=Int) ((idx b d).bind λ a=>
  cond (decide ((aw (c+(a.length:Int)))<0)) ((none:Option (Int))) (some (aw (c+(a.length:Int))))) λ(e:Int)=>
  yx b bS e (aw (d+1))) (some c)
def yy(a:List (List Int)):Nat->(List Int)->Int->Option (List Int)
 |0,_,_=>none
 |eM+1,e,b=>
  cond (decide (b<(a.length:Int))) ((idx a b).bind λ c=>
  (bI 8 e c).bind λ d=>
  yy a eM d (aw (b+1))) (some e)
def Ia(F:Nat)(d:List (List Int)):Option (List Int):=
 ej (α:=Int) (yx d F 0 0) λ(a:Int)=>
 (Rp a).bind λ b=>
 ej (α:=List Int) (yy d F b 0) λ(c:List Int)=>
 some c
def An(F:Nat)(a:bk):Option (List Int):=
 (Ia F [a.ak,a.aK]).bind λ b=>
 some b
def cmp_isNaN_int(a:Int):Option (Bool):=some (!decide (a=a))
def cmp_Less_int(b:Int)(a:Int):Option (Bool):=
 (cmp_isNaN_int b).bind λ c=>
 cond (c) ((cmp_isNaN_int a).bind λ d=>
 some ((!d)||(decide (b<a)))) (some (decide (b<a)))
def Rt(a:Int):Option (Bool):=some (!decide (a=a))
def vS(g:Int)(h:List Int):Nat->Int->Int->Option (Int)
 |0,_,_=>none
 |bS+1,a,b=>
  cond (decide (a<b)) (ej (α:=Int×Int) ((idx h (aw (yw (Io (aw (a+b))) 1))).bind λ c=>
  (cmp_Less_int c g).bind λ d=>
  cond (d) (some (aw ((aw (yw (Io (aw (a+b))) 1))+1),b)) (some (a,aw (yw (Io (aw (a+b))) 1)))) λ((e,f):Int×Int)=>
  vS g h bS e f) (some a)
def L9(F:Nat)(b:List Int)(c:Int):Option (Int×Bool):=
 ej (α:=Int) (vS c b F 0 (b.length:Int)) λ(a:Int)=>
 cond (decide (a<(b.length:Int))) ((idx b a).bind λ d=>
 cond (decide (d=c)) (some (a,true)) ((idx b a).bind λ e=>
 (Rt e).bind λ f=>
 cond (f) ((Rt c).bind λ g=>
 some (a,g)) (some (a,false)))) (some (a,false))
def xq(b:bk)(c:List Int):Nat->(List (Int×Bool))->Int->Option (Way (Int) (List (Int×Bool)))
 |0,_,_=>none
 |bS+1,f,d=>
  cond (decide (d<(c.length:Int))) ((idx c d).bind λ e=>
  (idx b.H.Words (aw (e+2))).bind λ a=>
  cond ((decide (a<1))||(decide (b.H.Next<=a))) (some (.out 3)) (xq b c bS (gy f a true) (aw (d+1)))) (some (.go f))
def GX(F:Nat)(a:bk):Option (Int):=
 (An F (⟨(⟨a.H.Words,a.H.ak,a.H.aK,a.H.aO,a.H.aM,a.H.aU,a.H.Next⟩:aV),(⟨(⟨a.S.K.a1,a.S.K.aY,a.S.K.Fields,a.S.K.Names,a.S.K.aZ⟩:aP)⟩:b9),a.ak,a.aK,a.dQ⟩:bk)).bind λ b=>
 cr (α:=List (Int×Bool)) (xq a b F [] 0) λ(c:List (Int×Bool))=>
 cond (decide ((c.length:Int)<(a.dQ.length:Int))) (some 6) (some 0)
def WH(a:Int):Option (Bool):=some (!decide (a=0))
def BF(s_:List Int):Nat->Int->Option (Way (Int) (Unit))
 |0,_=>none
 |bS+1,a=>
  cond (decide (a<(s_.length:Int))) ((idx s_ a).bind λ b=>
  (WH b).bind λ c=>
  cond (c) (some (.out a)) (BF s_ bS (aw (a+1)))) (some (.go ()))
def Rr(F:Nat)(s_:List Int):Option (Int):=
 cr (α:=Unit) (BF s_ F 0) λ(_:Unit)=>
 some (-1)
def Rn(F:Nat)(s_:List Int):Option (Bool):=
 (Rr F s_).bind λ a=>
 some (decide (0<=a))
def xt(b:bk)(qp:List Int):Nat->Int->Option (Way (Int) (Unit))
 |0,_=>none
 |eM+1,c=>
  cond (decide (c<(qp.length:Int))) ((idx qp c).bind λ d=>
  (idx b.H.Words d).bind λ a=>
  cond (!decide (a=0)) (cond (!((cE b.dQ a).getD false)) (some (.out 5)) (xt b qp eM (aw (c+1)))) (xt b qp eM (aw (c+1)))) (some (.go ()))
def Ao(F:Nat)(a:bk)(b:List Int):Nat->Int->Option (Way (Int) (Unit))
 |0,_=>none
 |bS+1,c=>
  cond (decide (c<(b.length:Int))) (df (α:=Unit) ((idx b c).bind λ d=>
  (ru F (⟨(⟨a.H.Words,a.H.ak,a.H.aK,a.H.aO,a.H.aM,a.H.aU,a.H.Next⟩:aV),(⟨(⟨a.S.K.a1,a.S.K.aY,a.S.K.Fields,a.S.K.Names,a.S.K.aZ⟩:aP)⟩:b9),a.ak,a.aK,a.dQ⟩:bk) d).bind λ qp=>
  df (α:=Unit) (xt a qp F 0) λ(_:Unit)=>
  some (.go ())) λ(_:Unit)=>
  Ao F a b bS (aw (c+1))) (some (.go ()))
def GZ(F:Nat)(a:bk):Option (Int):=
 (An F (⟨(⟨a.H.Words,a.H.ak,a.H.aK,a.H.aO,a.H.aM,a.H.aU,a.H.Next⟩:aV),(⟨(⟨a.S.K.a1,a.S.K.aY,a.S.K.Fields,a.S.K.Names,a.S.K.aZ⟩:aP)⟩:b9),a.ak,a.aK,a.dQ⟩:bk)).bind λ g=>
 cr (α:=Unit) (Ao F a g F 0) λ(_:Unit)=>
 (cut a.H.Words 0 1).bind λ b=>
 (cut a.H.Words a.H.aO (aw (a.H.ak+1))).bind λ c=>
 (cut a.H.Words a.H.aM (a.H.Words.length:Int)).bind λ d=>
 (Ia F [b,c,d]).bind λ e=>
 (Rn F e).bind λ f=>
 cond (f) (some 1) (some 0)
def OZ(c:Int)(a:bk):Option (Bool):=
 (idx a.H.Words c).bind λ b=>
 (GV (⟨(⟨a.H.Words,a.H.ak,a.H.aK,a.H.aO,a.H.aM,a.H.aU,a.H.Next⟩:aV),(⟨(⟨a.S.K.a1,a.S.K.aY,a.S.K.Fields,a.S.K.Names,a.S.K.aZ⟩:aP)⟩:b9),a.ak,a.aK,a.dQ⟩:bk) b).bind λ d=>
 some d
def BE(s_:List Int)(a:bk):Nat->Int->Option (Way (Int) (Unit))
 |0,_=>none
 |bS+1,b=>
  cond (decide (b<(s_.length:Int))) ((idx s_ b).bind λ c=>
  (OZ c (⟨(⟨a.H.Words,a.H.ak,a.H.aK,a.H.aO,a.H.aM,a.H.aU,a.H.Next⟩:aV),(⟨(⟨a.S.K.a1,a.S.K.aY,a.S.K.Fields,a.S.K.Names,a.S.K.aZ⟩:aP)⟩:b9),a.ak,a.aK,a.dQ⟩:bk)).bind λ d=>
  cond (d) (some (.out b)) (BE s_ a bS (aw (b+1)))) (some (.go ()))
def Rq(F:Nat)(s_:List Int)(a:bk):Option (Int):=
 cr (α:=Unit) (BE s_ a F 0) λ(_:Unit)=>
 some (-1)
def Rm(F:Nat)(s_:List Int)(a:bk):Option (Bool):=
 (Rq F s_ (⟨(⟨a.H.Words,a.H.ak,a.H.aK,a.H.aO,a.H.aM,a.H.aU,a.H.Next⟩:aV),(⟨(⟨a.S.K.a1,a.S.K.aY,a.S.K.Fields,a.S.K.Names,a.S.K.aZ⟩:aP)⟩:b9),a.ak,a.aK,a.dQ⟩:bk)).bind λ b=>
 some (decide (0<=b))
def u'(F:Nat)(a:bk):Nat->Int->Option (Way (Int) (Unit))
 |0,_=>none
 |bS+1,c=>
  cond (decide (c<(a.H.aU.length:Int))) ((idx a.H.aU c).bind λ b=>
  cond (decide (0<c)) ((idx a.H.aU (aw (c-1))).bind λ d=>
  cond (decide (b<=d)) (some (.out 4)) (cond (!((cE a.dQ b).getD false)) (some (.out 4)) ((GV (⟨(⟨a.H.Words,a.H.ak,a.H.aK,a.H.aO,a.H.aM,a.H.aU,a.H.Next⟩:aV),(⟨(⟨a.S.K.a1,a.S.K.aY,a.S.K.Fields,a.S.K.Names,a.S.K.aZ⟩:aP)⟩:b9),a.ak,a.aK,a.dQ⟩:bk) b).bind λ e=>
  cond (e) (some (.out 4)) ((ru F (⟨(⟨a.H.Words,a.H.ak,a.H.aK,a.H.aO,a.H.aM,a.H.aU,a.H.Next⟩:aV),(⟨(⟨a.S.K.a1,a.S.K.aY,a.S.K.Fields,a.S.K.Names,a.S.K.aZ⟩:aP)⟩:b9),a.ak,a.aK,a.dQ⟩:bk) b).bind λ f=>
  cond (decide ((f.length:Int)=0)) (some (.out 4)) (u' F a bS (aw (c+1))))))) (cond (!((cE a.dQ b).getD false)) (some (.out 4)) ((GV (⟨(⟨a.H.Words,a.H.ak,a.H.aK,a.H.aO,a.H.aM,a.H.aU,a.H.Next⟩:aV),(⟨(⟨a.S.K.a1,a.S.K.aY,a.S.K.Fields,a.S.K.Names,a.S.K.aZ⟩:aP)⟩:b9),a.ak,a.aK,a.dQ⟩:bk) b).bind λ g=>
  cond (g) (some (.out 4)) ((ru F (⟨(⟨a.H.Words,a.H.ak,a.H.aK,a.H.aO,a.H.aM,a.H.aU,a.H.Next⟩:aV),(⟨(⟨a.S.K.a1,a.S.K.aY,a.S.K.Fields,a.S.K.Names,a.S.K.aZ⟩:aP)⟩:b9),a.ak,a.aK,a.dQ⟩:bk) b).bind λ h=>
  cond (decide ((h.length:Int)=0)) (some (.out 4)) (u' F a bS (aw (c+1))))))) (some (.go ()))
def xr(F:Nat)(a:bk):Nat->Int->Option (Way (Int) (Unit))
 |0,_=>none
 |eM+1,c=>
  cond (decide (c<(a.aK.length:Int))) ((idx a.aK c).bind λ b=>
  (L9 F a.H.aU b).bind λ d=>
  cond (!d.2) ((ru F (⟨(⟨a.H.Words,a.H.ak,a.H.aK,a.H.aO,a.H.aM,a.H.aU,a.H.Next⟩:aV),(⟨(⟨a.S.K.a1,a.S.K.aY,a.S.K.Fields,a.S.K.Names,a.S.K.aZ⟩:aP)⟩:b9),a.ak,a.aK,a.dQ⟩:bk) b).bind λ e=>
  (Rm F e (⟨(⟨a.H.Words,a.H.ak,a.H.aK,a.H.aO,a.H.aM,a.H.aU,a.H.Next⟩:aV),(⟨(⟨a.S.K.a1,a.S.K.aY,a.S.K.Fields,a.S.K.Names,a.S.K.aZ⟩:aP)⟩:b9),a.ak,a.aK,a.dQ⟩:bk)).bind λ f=>
  cond (f) (some (.out 4)) (xr F a eM (aw (c+1)))) (xr F a eM (aw (c+1)))) (some (.go ()))
def GY(F:Nat)(a:bk):Option (Int):=
 cr (α:=Unit) (u' F a F 0) λ(_:Unit)=>
 cr (α:=Unit) (xr F a F 0) λ(_:Unit)=>
 some 0
def va(F:Nat)(a:aV)(b:aP):Option ((Option bk)×Int):=
 (G0 (⟨a.Words,a.ak,a.aK,a.aO,a.aM,a.aU,a.Next⟩:aV)).bind λ e=>
 cond (!decide (e=0)) (some ((none:Option bk),e)) ((nJ F (⟨(⟨a.Words,a.ak,a.aK,a.aO,a.aM,a.aU,a.Next⟩:aV),(⟨(⟨b.a1,b.aY,b.Fields,b.Names,b.aZ⟩:aP)⟩:b9),[],[],[]⟩:bk) 1 a.aO).bind λ c=>
 (nJ F (⟨(⟨a.Words,a.ak,a.aK,a.aO,a.aM,a.aU,a.Next⟩:aV),(⟨(⟨b.a1,b.aY,b.Fields,b.Names,b.aZ⟩:aP)⟩:b9),[],[],c.2.2.dQ⟩:bk) (aw (a.ak+1)) a.aM).bind λ pk=>
 cond ((!c.2.1)||(!pk.2.1)) (some ((none:Option bk),1)) ((GX F (⟨(⟨a.Words,a.ak,a.aK,a.aO,a.aM,a.aU,a.Next⟩:aV),(⟨(⟨b.a1,b.aY,b.Fields,b.Names,b.aZ⟩:aP)⟩:b9),c.1,pk.1,pk.2.2.dQ⟩:bk)).bind λ d=>
 cond (!decide (d=0)) (some ((none:Option bk),d)) ((GZ F (⟨(⟨a.Words,a.ak,a.aK,a.aO,a.aM,a.aU,a.Next⟩:aV),(⟨(⟨b.a1,b.aY,b.Fields,b.Names,b.aZ⟩:aP)⟩:b9),c.1,pk.1,pk.2.2.dQ⟩:bk)).bind λ f=>
 cond (!decide (f=0)) (some ((none:Option bk),f)) ((GY F (⟨(⟨a.Words,a.ak,a.aK,a.aO,a.aM,a.aU,a.Next⟩:aV),(⟨(⟨b.a1,b.aY,b.Fields,b.Names,b.aZ⟩:aP)⟩:b9),c.1,pk.1,pk.2.2.dQ⟩:bk)).bind λ g=>
 cond (!decide (g=0)) (some ((none:Option bk),g)) (some ((some (⟨(⟨a.Words,a.ak,a.aK,a.aO,a.aM,a.aU,a.Next⟩:aV),(⟨(⟨b.a1,b.aY,b.Fields,b.Names,b.aZ⟩:aP)⟩:b9),c.1,pk.1,pk.2.2.dQ⟩:bk)),0))))))
def kQ(F:Nat)(b:aV)(a:aP):Option ((Option bk)×Int):=
 (pa F (⟨a.a1,a.aY,a.Fields,a.Names,a.aZ⟩:aP)).bind λ c=>
 cond (!decide (c=0)) (some ((none:Option bk),c)) ((va F (⟨b.Words,b.ak,b.aK,b.aO,b.aM,b.aU,b.Next⟩:aV) (⟨a.a1,a.aY,a.Fields,a.Names,a.aZ⟩:aP)).bind λ d=>
 some (d.1,d.2))
def Rl(s_:List Int):Option (List Int):=
 (bI 8 ([]:List Int) s_).bind λ a=>
 some a
def nI(a:aV):Option (aV):=
 (Rl a.Words).bind λ b=>
 (Rl a.aU).bind λ c=>
 some (⟨b,a.ak,a.aK,a.aO,a.aM,c,a.Next⟩:aV)
def p3(a:aV)(i:Int)(b:Int)(j:Bool):Option (Int×Bool×aV):=
 cond (j) (cond (decide ((aw ((aw ((aw (a.ak+a.aK))+1))-a.aM))<(aw (3+b)))) (some (0,false,(⟨a.Words,a.ak,a.aK,a.aO,a.aM,a.aU,a.Next⟩:aV))) ((idx a.Words a.aM).bind λ k=>
 (some (a.Words.set (a.aM).toNat i)).bind λ c=>
 (idx c (aw (a.aM+1))).bind λ p=>
 (some (c.set (aw (a.aM+1)).toNat b)).bind λ d=>
 (idx d (aw (a.aM+2))).bind λ l=>
 (some (d.set (aw (a.aM+2)).toNat a.Next)).bind λ g=>
 some (a.aM,true,(⟨g,a.ak,a.aK,a.aO,aw (a.aM+(aw (3+b))),a.aU,aw (a.Next+1)⟩:aV)))) (cond (decide ((aw ((aw (a.ak+1))-a.aO))<(aw (3+b)))) (some (0,false,(⟨a.Words,a.ak,a.aK,a.aO,a.aM,a.aU,a.Next⟩:aV))) ((idx a.Words a.aO).bind λ m=>
 (some (a.Words.set (a.aO).toNat i)).bind λ e=>
 (idx e (aw (a.aO+1))).bind λ n=>
 (some (e.set (aw (a.aO+1)).toNat b)).bind λ f=>
 (idx f (aw (a.aO+2))).bind λ o=>
 (some (f.set (aw (a.aO+2)).toNat a.Next)).bind λ h=>
 some (a.aO,true,(⟨h,a.ak,a.aK,aw (a.aO+(aw (3+b))),a.aM,a.aU,aw (a.Next+1)⟩:aV))))
def ahW(F:Nat)(a:aV)(d:aP)(i:Int)(j:Int)(k:Bool):Option (aV×Int×Int):=
 (kQ F (⟨a.Words,a.ak,a.aK,a.aO,a.aM,a.aU,a.Next⟩:aV) (⟨d.a1,d.aY,d.Fields,d.Names,d.aZ⟩:aP)).bind λ g=>
 ej (α:=Int) (cond (decide (g.2=0)) ((g.1).bind λ e=>
 (Am (⟨(⟨e.S.K.a1,e.S.K.aY,e.S.K.Fields,e.S.K.Names,e.S.K.aZ⟩:aP)⟩:b9) i j).bind λ h=>
 some h) (some g.2)) λ(f:Int)=>
 cond (!decide (f=0)) (some ((⟨[],0,0,0,0,[],0⟩:aV),0,f)) ((nI (⟨a.Words,a.ak,a.aK,a.aO,a.aM,a.aU,a.Next⟩:aV)).bind λ b=>
 (p3 (⟨b.Words,b.ak,b.aK,b.aO,b.aM,b.aU,b.Next⟩:aV) i j k).bind λ c=>
 cond (!c.2.1) (some ((⟨[],0,0,0,0,[],0⟩:aV),0,8)) (some ((⟨c.2.2.Words,b.ak,b.aK,c.2.2.aO,c.2.2.aM,b.aU,c.2.2.Next⟩:aV),c.1,0)))
def wK(b:List Int)(c:List Int):Nat->Int->Option (Way (Bool) (Unit))
 |0,_=>none
 |bS+1,a=>
  cond (decide (a<(b.length:Int))) ((idx b a).bind λ d=>
  (idx c a).bind λ oA=>
  cond (!decide (d=oA)) (some (.out false)) (wK b c bS (aw (a+1)))) (some (.go ()))
def pR(F:Nat)(a:List Int)(b:List Int):Option (Bool):=
 cond (!decide ((a.length:Int)=(b.length:Int))) (some false) (cr (α:=Unit) (wK a b F 0) λ(_:Unit)=>
 some true)
def TK(F:Nat)(a:aV)(b:aV):Option (Bool):=
 (pR F a.Words b.Words).bind λ c=>
 cond ((((c&&(decide (a.ak=b.ak)))&&(decide (a.aK=b.aK)))&&(decide (a.aO=b.aO)))&&(decide (a.aM=b.aM))) ((pR F a.aU b.aU).bind λ d=>
 some (d&&(decide (a.Next=b.Next)))) (some false)
def Cy(F:Nat)(a:aV)(e_:Int)(j:Int)(b:aV):Option (Bool):=
 ej (α:=(List Int)×Int×Int×Int×Int×(List Int)×Int) (cond (!decide (j=0)) (some ([],0,0,0,0,[],0)) (some (b.Words,b.ak,b.aK,b.aO,b.aM,b.aU,b.Next))) λ((c,d,e,f,g,h,i):(List Int)×Int×Int×Int×Int×(List Int)×Int)=>
 cond (decide (e_=j)) ((TK F (⟨a.Words,a.ak,a.aK,a.aO,a.aM,a.aU,a.Next⟩:aV) (⟨c,d,e,f,g,h,i⟩:aV)).bind λ k=>
 some k) (some false)
def F9(b:aP)(a:Int):Option (Bool):=some ((decide (1<=a))&&(decide (a<(aw (3+(b.a1.length:Int))))))
def F8(d:aP)(b:Int)(c:Int):Option (Bool):=
 (gp c 0 500).bind λ e=>
 cond (e) (cond (decide (b<3)) (some true) ((idx d.Fields (aw (b-3))).bind λ a=>
 some (decide (c=(a.length:Int))))) (some false)
def uK(d:aP)(a:Int)(e:Int):Option (Bool):=
 cond (decide (a=2)) (some true) (cond (decide (3<=a)) ((idx d.Fields (aw (a-3))).bind λ b=>
 (idx b e).bind λ c=>
 some (!decide (c.Kind.Kind=1))) (some false))
def zz(c:aV)(a:aP)(e:Int):Nat->(List Int)->Int->Option (Way ((List Int)×Bool) ((List Int)×Int))
 |0,_,_=>none
 |bS+1,d,b=>
  cond (decide (b<e)) (cond (decide (e<(aw (b+3)))) (some (.out ([],false))) ((idx c.Words b).bind λ f=>
  (F9 (⟨a.a1,a.aY,a.Fields,a.Names,a.aZ⟩:aP) f).bind λ g=>
  cond (!g) (some (.out ([],false))) ((idx c.Words b).bind λ h=>
  (idx c.Words (aw (b+1))).bind λ i=>
  (F8 (⟨a.a1,a.aY,a.Fields,a.Names,a.aZ⟩:aP) h i).bind λ j=>
  cond (!j) (some (.out ([],false))) ((bI 8 d [b]).bind λ k=>
  (idx c.Words (aw (b+1))).bind λ l=>
  zz c a e bS k (aw (b+(aw (3+l)))))))) (some (.go (d,b)))
def sB(F:Nat)(e:aV)(f:aP)(a:Int)(d:Int):Option ((List Int)×Bool):=
 cr (α:=(List Int)×Int) (zz e f d F [] a) λ((b,c):(List Int)×Int)=>
 some (b,decide (c=d))
def CV(a:List Int)(c:Int):Nat->Int->Option (Way (Bool) (Unit))
 |0,_=>none
 |bS+1,b=>
  cond (decide (b<(a.length:Int))) ((idx a b).bind λ d=>
  cond (decide (d=c)) (some (.out true)) (CV a c bS (aw (b+1)))) (some (.go ()))
def iL(F:Nat)(a:List Int)(b:Int):Option (Bool):=
 cr (α:=Unit) (CV a b F 0) λ(_:Unit)=>
 some false
def wI(at_:Int)(c:aV)(a:aP):Nat->(List Int)->Int->Option (List Int)
 |0,_,_=>none
 |bS+1,d,b=>
  (idx c.Words (aw (at_+1))).bind λ e=>
  cond (decide (b<e)) (ej (α:=List Int) ((idx c.Words at_).bind λ f=>
  (uK (⟨a.a1,a.aY,a.Fields,a.Names,a.aZ⟩:aP) f b).bind λ g=>
  cond (g) ((bI 8 d [aw ((aw (at_+3))+b)]).bind λ h=>
  some h) (some d)) λ(i:List Int)=>
  wI at_ c a bS i (aw (b+1))) (some d)
def pQ(F:Nat)(b:aV)(c:aP)(at_:Int):Option (List Int):=
 ej (α:=List Int) (wI at_ b c F [] 0) λ(a:List Int)=>
 some a
def oH(F:Nat)(a:aV)(b:aP):Option ((List Int)×(List Int)×Bool):=
 (sB F (⟨a.Words,a.ak,a.aK,a.aO,a.aM,a.aU,a.Next⟩:aV) (⟨b.a1,b.aY,b.Fields,b.Names,b.aZ⟩:aP) 1 a.aO).bind λ c=>
 (sB F (⟨a.Words,a.ak,a.aK,a.aO,a.aM,a.aU,a.Next⟩:aV) (⟨b.a1,b.aY,b.Fields,b.Names,b.aZ⟩:aP) (aw (a.ak+1)) a.aM).bind λ d=>
 some (c.1,d.1,c.2&&d.2)
def CD(a:aV)(b:List Int):Nat->Int->Option (Way (Int) (Unit))
 |0,_=>none
 |bS+1,c=>
  cond (decide (c<(b.length:Int))) ((idx b c).bind λ d=>
  (idx a.Words (aw (d+2))).bind λ f=>
  (gp f 1 (aw (a.Next-1))).bind λ e=>
  cond (!e) (some (.out 3)) (CD a b bS (aw (c+1)))) (some (.go ()))
def CE(a:aV)(b:List Int)(c:Int):Nat->Int->Option (Way (Int) (Unit))
 |0,_=>none
 |hY+1,d=>
  cond (decide (d<c)) ((idx b c).bind λ e=>
  (idx a.Words (aw (e+2))).bind λ f=>
  (idx b d).bind λ g=>
  (idx a.Words (aw (g+2))).bind λ h=>
  cond (decide (f=h)) (some (.out 6)) (CE a b c hY (aw (d+1)))) (some (.go ()))
def zp(F:Nat)(c:aV)(a:List Int):Nat->Int->Option (Way (Int) (Unit))
 |0,_=>none
 |eM+1,b=>
  cond (decide (b<(a.length:Int))) (df (α:=Unit) (df (α:=Unit) (CE c a b F 0) λ(_:Unit)=>
  some (.go ())) λ(_:Unit)=>
  zp F c a eM (aw (b+1))) (some (.go ()))
def zq(F:Nat)(c:aV)(d:List Int)(a:List Int):Nat->Int->Option (Way (Int) (Unit))
 |0,_=>none
 |vl+1,b=>
  cond (decide (b<(a.length:Int))) ((idx a b).bind λ e=>
  (idx c.Words e).bind λ f=>
  cond (!decide (f=0)) ((idx a b).bind λ g=>
  (idx c.Words g).bind λ h=>
  (iL F d h).bind λ i=>
  cond (!i) (some (.out 5)) (zq F c d a vl (aw (b+1)))) (zq F c d a vl (aw (b+1)))) (some (.go ()))
def CF(F:Nat)(a:aV)(b:aP)(c:List Int):Nat->Int->Option (Way (Int) (Unit))
 |0,_=>none
 |mP+1,d=>
  cond (decide (d<(c.length:Int))) (df (α:=Unit) ((idx c d).bind λ e=>
  (pQ F (⟨a.Words,a.ak,a.aK,a.aO,a.aM,a.aU,a.Next⟩:aV) (⟨b.a1,b.aY,b.Fields,b.Names,b.aZ⟩:aP) e).bind λ f=>
  df (α:=Unit) (zq F a c f F 0) λ(_:Unit)=>
  some (.go ())) λ(_:Unit)=>
  CF F a b c mP (aw (d+1))) (some (.go ()))
def wG(a:aV):Nat->Int->Option (Way (Int) (Unit))
 |0,_=>none
 |AD+1,b=>
  cond (decide (b<(a.Words.length:Int))) ((idx a.Words b).bind λ c=>
  cond (!decide (c=0)) (cond (decide (b=0)) (some (.out 1)) ((gp b a.aO a.ak).bind λ d=>
  cond (d||(decide (a.aM<=b))) (some (.out 1)) (wG a AD (aw (b+1))))) (wG a AD (aw (b+1)))) (some (.go ()))
def q3(F:Nat)(a:aV)(b:aP)(d:(List Int)×(List Int)×Bool):Nat->Int->Option (Way (Int) (Unit))
 |0,_=>none
 |Px+1,c=>
  cond (decide (c<(a.aU.length:Int))) (cond (decide (0<c)) ((idx a.aU c).bind λ e=>
  (idx a.aU (aw (c-1))).bind λ f=>
  cond (decide (e<=f)) (some (.out 4)) ((idx a.aU c).bind λ g=>
  (iL F d.2.1 g).bind λ h=>
  cond (!h) (some (.out 4)) ((idx a.aU c).bind λ i=>
  (pQ F (⟨a.Words,a.ak,a.aK,a.aO,a.aM,a.aU,a.Next⟩:aV) (⟨b.a1,b.aY,b.Fields,b.Names,b.aZ⟩:aP) i).bind λ j=>
  cond (decide ((j.length:Int)=0)) (some (.out 4)) (q3 F a b d Px (aw (c+1)))))) ((idx a.aU c).bind λ k=>
  (iL F d.2.1 k).bind λ l=>
  cond (!l) (some (.out 4)) ((idx a.aU c).bind λ m=>
  (pQ F (⟨a.Words,a.ak,a.aK,a.aO,a.aM,a.aU,a.Next⟩:aV) (⟨b.a1,b.aY,b.Fields,b.Names,b.aZ⟩:aP) m).bind λ n=>
  cond (decide ((n.length:Int)=0)) (some (.out 4)) (q3 F a b d Px (aw (c+1)))))) (some (.go ()))
def sx(F:Nat)(a:aV)(d:(List Int)×(List Int)×Bool)(e:Int)(b:List Int):Nat->Int->Option (Way (Int) (Unit))
 |0,_=>none
 |Py+1,c=>
  cond (decide (c<(b.length:Int))) ((idx b c).bind λ f=>
  (idx a.Words f).bind λ g=>
  (gp g 1 a.ak).bind λ h=>
  cond (h) ((idx d.2.1 e).bind λ i=>
  (iL F a.aU i).bind λ j=>
  cond (!j) (some (.out 4)) (sx F a d e b Py (aw (c+1)))) (sx F a d e b Py (aw (c+1)))) (some (.go ()))
def uF(F:Nat)(a:aV)(b:aP)(c:(List Int)×(List Int)×Bool):Nat->Int->Option (Way (Int) (Unit))
 |0,_=>none
 |X5+1,d=>
  cond (decide (d<(c.2.1.length:Int))) (df (α:=Unit) ((idx c.2.1 d).bind λ e=>
  (pQ F (⟨a.Words,a.ak,a.aK,a.aO,a.aM,a.aU,a.Next⟩:aV) (⟨b.a1,b.aY,b.Fields,b.Names,b.aZ⟩:aP) e).bind λ f=>
  df (α:=Unit) (sx F a c d f F 0) λ(_:Unit)=>
  some (.go ())) λ(_:Unit)=>
  uF F a b c X5 (aw (d+1))) (some (.go ()))
def F7(F:Nat)(a:aV)(b:aP):Option (Int):=
 (gp a.ak 3 2000).bind λ f=>
 cond (!f) (some 3) ((gp a.aK 3 2000).bind λ g=>
 cond (!g) (some 3) (cond (!decide ((a.Words.length:Int)=(aw ((aw (1+a.ak))+a.aK)))) (some 1) ((gp a.aO 1 (aw (a.ak+1))).bind λ h=>
 cond (!h) (some 3) ((gp a.aM (aw (a.ak+1)) (aw ((aw (a.ak+a.aK))+1))).bind λ pk=>
 cond ((!pk)||(decide (a.Next<1))) (some 3) ((oH F (⟨a.Words,a.ak,a.aK,a.aO,a.aM,a.aU,a.Next⟩:aV) (⟨b.a1,b.aY,b.Fields,b.Names,b.aZ⟩:aP)).bind λ c=>
 cond (!c.2.2) (some 1) ((bI 8 ([]:List Int) c.1).bind λ d=>
 (bI 8 d c.2.1).bind λ e=>
 cr (α:=Unit) (CD a e F 0) λ(_:Unit)=>
 cr (α:=Unit) (zp F a e F 0) λ(_:Unit)=>
 cr (α:=Unit) (CF F a b e F 0) λ(_:Unit)=>
 cr (α:=Unit) (wG a F 0) λ(_:Unit)=>
 cr (α:=Unit) (q3 F a b c F 0) λ(_:Unit)=>
 cr (α:=Unit) (uF F a b c F 0) λ(_:Unit)=>
 some 0))))))
def zw(F:Nat)(b:aV)(a:aP):Option (Int):=
 (uI F (⟨a.a1,a.aY,a.Fields,a.Names,a.aZ⟩:aP)).bind λ c=>
 cond (decide (c=0)) ((F7 F (⟨b.Words,b.ak,b.aK,b.aO,b.aM,b.aU,b.Next⟩:aV) (⟨a.a1,a.aY,a.Fields,a.Names,a.aZ⟩:aP)).bind λ d=>
 some d) (some c)
def Jf(F:Nat)(a:aV)(b:aP)(at_:Int):Option (Bool):=
 (oH F (⟨a.Words,a.ak,a.aK,a.aO,a.aM,a.aU,a.Next⟩:aV) (⟨b.a1,b.aY,b.Fields,b.Names,b.aZ⟩:aP)).bind λ d=>
 (iL F d.1 at_).bind λ e=>
 cond (e) (some true) ((iL F d.2.1 at_).bind λ c=>
 some c)
def adw(a:aV):Option (Int):=some (aw ((aw ((aw ((aw (a.ak+a.aK))+1))-a.aM))- (aw (a.aO-1))))
def aqw(F:Nat)(a:aV)(b:aP):Option (Int×Int):=
 (kQ F (⟨a.Words,a.ak,a.aK,a.aO,a.aM,a.aU,a.Next⟩:aV) (⟨b.a1,b.aY,b.Fields,b.Names,b.aZ⟩:aP)).bind λ c=>
 cond (!decide (c.2=0)) (some (0,c.2)) ((adw (⟨a.Words,a.ak,a.aK,a.aO,a.aM,a.aU,a.Next⟩:aV)).bind λ d=>
 some (d,0))
def ad3(a:aV):Option (Int):=some (aw ((aw ((aw ((aw ((aw (a.ak+a.aK))+1))-a.aM))-a.aO))+1))
def S2(at_:Int)(a:bk):Option (Bool):=
 cond (!decide (at_=0)) ((GU (⟨(⟨a.H.Words,a.H.ak,a.H.aK,a.H.aO,a.H.aM,a.H.aU,a.H.Next⟩:aV),(⟨(⟨a.S.K.a1,a.S.K.aY,a.S.K.Fields,a.S.K.Names,a.S.K.aZ⟩:aP)⟩:b9),a.ak,a.aK,a.dQ⟩:bk) at_).bind λ b=>
 some (!b)) (some false)
def BG(s_:List Int)(a:bk):Nat->Int->Option (Way (Int) (Unit))
 |0,_=>none
 |bS+1,b=>
  cond (decide (b<(s_.length:Int))) ((idx s_ b).bind λ c=>
  (S2 c (⟨(⟨a.H.Words,a.H.ak,a.H.aK,a.H.aO,a.H.aM,a.H.aU,a.H.Next⟩:aV),(⟨(⟨a.S.K.a1,a.S.K.aY,a.S.K.Fields,a.S.K.Names,a.S.K.aZ⟩:aP)⟩:b9),a.ak,a.aK,a.dQ⟩:bk)).bind λ d=>
  cond (d) (some (.out b)) (BG s_ a bS (aw (b+1)))) (some (.go ()))
def Rs(F:Nat)(s_:List Int)(a:bk):Option (Int):=
 cr (α:=Unit) (BG s_ a F 0) λ(_:Unit)=>
 some (-1)
def Ro(F:Nat)(s_:List Int)(a:bk):Option (Bool):=
 (Rs F s_ (⟨(⟨a.H.Words,a.H.ak,a.H.aK,a.H.aO,a.H.aM,a.H.aU,a.H.Next⟩:aV),(⟨(⟨a.S.K.a1,a.S.K.aY,a.S.K.Fields,a.S.K.Names,a.S.K.aZ⟩:aP)⟩:b9),a.ak,a.aK,a.dQ⟩:bk)).bind λ b=>
 some (decide (0<=b))
def FQ(F:Nat)(a:bk)(b:List Int):Option (Int):=
 cond (decide (1000<(b.length:Int))) (some 2) ((Ro F b (⟨(⟨a.H.Words,a.H.ak,a.H.aK,a.H.aO,a.H.aM,a.H.aU,a.H.Next⟩:aV),(⟨(⟨a.S.K.a1,a.S.K.aY,a.S.K.Fields,a.S.K.Names,a.S.K.aZ⟩:aP)⟩:b9),a.ak,a.aK,a.dQ⟩:bk)).bind λ c=>
 cond (c) (some 5) (some 0))
def q4(F:Nat)(a:List Int)(c:(List Int)×(List Int)×Bool):Nat->Int->Option (Way (Int) (Unit))
 |0,_=>none
 |bS+1,b=>
  cond (decide (b<(a.length:Int))) ((idx a b).bind λ d=>
  cond (!decide (d=0)) ((idx a b).bind λ e=>
  (iL F c.1 e).bind λ f=>
  cond (!f) ((idx a b).bind λ g=>
  (iL F c.2.1 g).bind λ h=>
  cond (!h) (some (.out 5)) (q4 F a c bS (aw (b+1)))) (q4 F a c bS (aw (b+1)))) (q4 F a c bS (aw (b+1)))) (some (.go ()))
def zu(F:Nat)(a:aV)(b:aP)(c:List Int):Option (Int):=
 cond (decide (1000<(c.length:Int))) (some 2) ((oH F (⟨a.Words,a.ak,a.aK,a.aO,a.aM,a.aU,a.Next⟩:aV) (⟨b.a1,b.aY,b.Fields,b.Names,b.aZ⟩:aP)).bind λ d=>
 cr (α:=Unit) (q4 F c d F 0) λ(_:Unit)=>
 some 0)
def Tz(F:Nat)(a:aV)(b:aP)(d:List Int):Option (Int):=
 (zw F (⟨a.Words,a.ak,a.aK,a.aO,a.aM,a.aU,a.Next⟩:aV) (⟨b.a1,b.aY,b.Fields,b.Names,b.aZ⟩:aP)).bind λ c=>
 cond (decide (c=0)) ((zu F (⟨a.Words,a.ak,a.aK,a.aO,a.aM,a.aU,a.Next⟩:aV) (⟨b.a1,b.aY,b.Fields,b.Names,b.aZ⟩:aP) d).bind λ e=>
 some e) (some c)
def ad4(b:List Int)(c:Int):Nat->Int->Option (Way (Int) (Unit))
 |0,_=>none
 |bS+1,a=>
  cond (decide (a<(b.length:Int))) ((idx b a).bind λ d=>
  cond (decide (d=c)) (some (.out a)) (ad4 b c bS (aw (a+1)))) (some (.go ()))
def zx(F:Nat)(a:List Int)(b:Int):Option (Int):=
 cr (α:=Unit) (ad4 a b F 0) λ(_:Unit)=>
 some (-1)
def Jd(F:Nat)(at_:Int)(b:aV)(QP:List Int):Option (List Int):=
 (gp at_ 1 b.ak).bind λ c=>
 cond (c) ((iL F QP at_).bind λ d=>
 cond (!d) ((bI 8 QP [at_]).bind λ a=>
 some a) (some QP)) (some QP)
def zi(F:Nat)(at_:Int)(b:List Int):Option (Int×(List Int)):=
 cond (decide (at_=0)) (some (0,b)) ((zx F b at_).bind λ c=>
 cond (decide (c<0)) ((bI 8 b [at_]).bind λ a=>
 some (aw ((aw ((a.length:Int)-1))+1),a)) (some (aw (c+1),b)))
def adX(F:Nat)(c:List Int):Nat->(List Int)->(List Int)->Int->Option ((List Int)×(List Int))
 |0,_,_,_=>none
 |bS+1,g,a,d=>
  cond (decide (d<(c.length:Int))) ((idx c d).bind λ e=>
  (zi F e a).bind λ b=>
  (bI 8 g [b.1]).bind λ f=>
  adX F c bS f b.2 (aw (d+1))) (some (g,a))
def adY(F:Nat)(e:aV)(a:aP)(f:Int):Nat->(List Int)->(List Int)->Int->Option ((List Int)×(List Int))
 |0,_,_,_=>none
 |hY+1,b,h,g=>
  (idx e.Words (aw (f+1))).bind λ i=>
  cond (decide (g<i)) (ej (α:=(List Int)×(List Int)) ((idx e.Words (aw ((aw (f+3))+g))).bind λ c=>
  ej (α:=(List Int)×Int) ((idx e.Words f).bind λ j=>
  (uK (⟨a.a1,a.aY,a.Fields,a.Names,a.aZ⟩:aP) j g).bind λ k=>
  cond (k) ((zi F c h).bind λ d=>
  some (d.2,d.1)) (some (h,c))) λ((l,m):(List Int)×Int)=>
  (bI 8 b [m]).bind λ n=>
  some (n,l)) λ((o,p):(List Int)×(List Int))=>
  adY F e a f hY o p (aw (g+1))) (some (b,h))
def uz(F:Nat)(a:aV)(n:aP):Nat->(List Int)->(List Int)->Int->Option ((List Int)×(List Int))
 |0,_,_,_=>none
 |eM+1,b,c,e=>
  cond (decide (e<(c.length:Int))) (ej (α:=(List Int)×(List Int)) ((idx c e).bind λ d=>
  (idx a.Words d).bind λ f=>
  (idx a.Words (aw (d+1))).bind λ g=>
  (idx a.Words (aw (d+2))).bind λ h=>
  (bI 8 b [f,g,h]).bind λ i=>
  ej (α:=(List Int)×(List Int)) (adY F a n d F i c 0) λ((j,k):(List Int)×(List Int))=>
  some (j,k)) λ((l,m):(List Int)×(List Int))=>
  uz F a n eM l m (aw (e+1))) (some (b,c))
def zh(F:Nat)(d:aV)(e:aP)(f:List Int):Option (List Int):=
 ej (α:=(List Int)×(List Int)) (adX F f F [] [] 0) λ((a,b):(List Int)×(List Int))=>
 ej (α:=(List Int)×(List Int)) (uz F d e F a b 0) λ((c,g):(List Int)×(List Int))=>
 some c
def F3(F:Nat)(c:aV)(b:aP)(g:List Int)(a:aV)(d:List Int):Option (Bool):=
 (zw F (⟨a.Words,a.ak,a.aK,a.aO,a.aM,a.aU,a.Next⟩:aV) (⟨b.a1,b.aY,b.Fields,b.Names,b.aZ⟩:aP)).bind λ h=>
 cond (decide (h=0)) ((zu F (⟨a.Words,a.ak,a.aK,a.aO,a.aM,a.aU,a.Next⟩:aV) (⟨b.a1,b.aY,b.Fields,b.Names,b.aZ⟩:aP) d).bind λ i=>
 cond ((decide (i=0))&&(decide ((g.length:Int)=(d.length:Int)))) ((zh F (⟨c.Words,c.ak,c.aK,c.aO,c.aM,c.aU,c.Next⟩:aV) (⟨b.a1,b.aY,b.Fields,b.Names,b.aZ⟩:aP) g).bind λ e=>
 (zh F (⟨a.Words,a.ak,a.aK,a.aO,a.aM,a.aU,a.Next⟩:aV) (⟨b.a1,b.aY,b.Fields,b.Names,b.aZ⟩:aP) d).bind λ j=>
 (pR F e j).bind λ f=>
 some f) (some false)) (some false)
end I
namespace Go.Proofs.YteeliipnilghaaaGreat
open Go Go.RowKit ay I ba
@[reducible] def ai'(F:Nat):iB bs:=⟨[.p (.B 0),ni],[.c 117 [.l 134,.M 1,.l 3],.m 9 3],[.p (.R 2)],[.c 117 [.l 134,.M 1,.l 3],.m 9 3,.r 136 false],List I.Field,
  λ d=>vu F ⟨d.2.1.1,d.2.2.1,d.2.1.2.2.1⟩ d.1.2.1,λ d r=>(((),()),((d.2.1.1,(),d.2.1.2.2.1,()),d.2.2.1,r,()))⟩
@[reducible] def aja(F:Nat):iB bs:=⟨[.p (.B 0),ni],[.c 117 [.l 134,.M 1,.l 3],.m 9 3],[.p (.R 2),.p (.R 3)],[.c 117 [.l 134,.M 1,.l 3],.m 9 3,.r 9 false,.r 166 false],List (List UInt8)×List I.Target,
  λ d=>EA F ⟨d.2.1.1,d.2.2.1,d.2.1.2.2.1⟩ d.1.2.1,λ d r=>(((),(),()),((d.2.1.1,(),d.2.1.2.2.1,()),d.2.2.1,r.1,r.2,()))⟩
def M'(F:Nat):cW aI:=⟨(83,(ai' F).run aI)::(82,(aja F).run aI)::aqE.ce,[]⟩
open Go Go.RowKit ay
set_option maxHeartbeats 4000000
set_option maxRecDepth 20000
theorem aeN{W:World}{X:List Nat}{F:Nat}{b:I.bt}{C:Int}{r:List Int}{k:Nat}{l:jc}{m:Nat}{n:Nat}{f:jc}{i:Nat}{M0:List Nat}(c:bz W M0 X W [] [bG.jJ k [.q l m b.l,.map (some n),.q f i b.dB],cx I.k5 l m b.l,bG.map nS (Value.int .i64) n b.b4,cx (fv .i64) f i b.dB])(h:I.ts F b C=some r) :
 Calls Tryz.prog 114 [.dn k,.i C].toArray W (λ e w'=>∃q:Option Addr,∃s:Nat,∃t:List Value,e= .returned (.q q s r)/\bz W M0 X w' [bc.row 3 1 (.q q s r) r t] [bG.rows (fv .i64) t r]):=by
 refine enter Tryz.func114 rfl Tryz.ntmps114 rfl λ a ad=>?_;rw[I.ts]at h;refine rj [] [] ad λ a ad=>rj [] [(5,.slice none 0 0)] ad λ a ad=>wp_seq_k λ K S=>?_;have c:=c.Lq (α:=Int) 3 1;have c:=c.more (y:=bG.rows (fv .i64) [] []) rfl;obtain⟨D,h,E⟩:=I.gr h
 refine NH (λ a w=>∃(u:jc)(v:Nat)(j:F2)(B:pM),Fr ⟨20,[]⟩ [(5,.q u v j)] a/\bz W M0 X w [bc.row 3 1 (.q u v j) j B] [bG.rows (fv .i64) B j,bG.jJ k [.q l m b.l,.map (some n),.q f i b.dB],cx I.k5 l m b.l,bG.map nS (Value.int .i64) n b.b4,cx (fv .i64) f i b.dB]/\D=j) (λ K U=>?_) ?_
 ·clear E;refine Ua (λ(P:Nat) a w=>∃(o:jc)(p:Nat)(g:F2)(x:pM)(d:Int),Fr ⟨20,[]⟩ [(0,.dn k),(1,.i d),(5,.q o p g)] a/\bz W M0 X w [bc.row 3 1 (.q o p g) g x] [bG.rows (fv .i64) x g,bG.jJ k [.q l m b.l,.map (some n),.q f i b.dB],cx I.k5 l m b.l,bG.map nS (Value.int .i64) n b.b4,cx (fv .i64) f i b.dB]/\I.tt b P g d=some D) F ⟨none,0,[],[],C,ad.cut,c,h⟩ ?_ ?_;rintro a w ⟨o,p,g,x,d,ad,c,h⟩;exact absurd h (by simp[I.tt]);rintro P a w ⟨o,p,g,x,d,ad,c,h⟩ K V;rw[I.tt]at h;refine wp_seq_k λ K Y=>rj [] [(7,.bool (decide (0<=d)))] ad λ a ad=>NJ (ad.g rfl) h (λ G h=>?_) (λ G h=>?_);refine wp_skip<|Y _ _<|wp_seq_k λ K Z=>wp_block<|pU<|lU 2 [] [(15,.q o p g),(16,.i d)] ad λ a ad=>akp (cs:=[.i d]) wn (FN (vs:=[(0,.i d)]) Tryz.underlying22 Tryz.sizeOf3 Tryz.zeroValue3 rfl rfl rfl ⟨⟨(ad.g rfl),rfl⟩,trivial⟩ (by kernel_rfl)) ad c rfl rfl λ a aPf w _ ad c=>?_;obtain⟨Q,H,h⟩:=I.gr h;refine L3 (T:=(fv .i64)) (ml:=[d]) 1 0 0 c rfl rfl rfl Tryz.underlying22 aCj rfl rfl H rfl rfl ⟨_,_,rfl,rfl,rfl⟩ wn rfl (ad.g rfl) (ad.g rfl) ad rfl rfl λ a z A J w ad c=>?_;refine lU 1 [] [(5,.q z A Q)] ad λ a ad=>wpList_nil (Z _ _ ?_);refine pU<|uQ 5 [0,2] [(11,.q f i b.dB),(12,.i d)] [k,2] (hF (c.d 2 rfl).2.2 gX) ad λ a ad=>?_;obtain⟨R,L,h⟩:=I.gr h;obtain⟨M,N,_,rfl,O⟩:=E3 _ (c.d 5 rfl) L;refine gi wn (qV Tryz.underlying22 Tryz.sizeOf3 rfl (ad.g rfl) (ad.g rfl) M N) ad rfl rfl λ a ad=>uQ 2 [0,0] [(1,.i R)] [dC f,gd f+(d).toNat*1] (hF O gX) ad λ a ad=>wpList_nil ?_;exact V _ _ ⟨z,A,Q,J,R,ad.cut,c.im [0,2,3,4,5],h⟩;refine wp_exit<|uu (uu (IK ?_));exact U _ _ ⟨o,p,g,x,ad.cut,c,(os h)⟩
 rintro a w ⟨u,v,j,B,ad,c,aA⟩;subst D;have h:=E;clear E;refine S _ _<|Mk [] [(4,.q u v j)] ad λ a ad=>wp_ret ?_;obtain rfl:=oi h;refine Br Tryz.results114 ad rfl ?_;exact⟨u,v,B,rfl,c.vR [0] [0]⟩
theorem aeO{W:World}{X:List Nat}{s_:List Int}{r:Unit}{c:jc}{d:Nat}{M0:List Nat}(f:bz W M0 X W [] [cx (fv .i64) c d s_])(h:I.L8 s_=some r) :
 Calls Tryz.prog 116 [.q c d s_].toArray W (λ e w'=>∃g:Nat,e= .returned (.func (.func 144) #[] #[.dn g])/\bz W M0 X w' [bc.cp g 22 [.q c d s_]] []):=by
 refine enter Tryz.func116 rfl Tryz.ntmps116 rfl λ a ad=>?_;clear h;refine wp_seq_k λ K i=>pU<|Bf (cs:=[.q c d s_]) wn (SQ rfl rfl (ad.g rfl)) ad f rfl rfl λ a b w _ ad f=>lU 1 [] [] ad λ a ad=>wpList_nil (i _ _ ?_);refine Mk [] [(2,.func (.func 144) #[] #[.dn b])] ad λ a ad=>wp_ret<|Br Tryz.results116 ad rfl ?_;exact⟨b,rfl,f.vR [0] []⟩
theorem aeL:adS Tryz.prog 144:=by
 intro n d A c fH L w0 aj hy m;refine axu (vs:=[.func (.yield L) #[] #[],.dn fH]) Tryz.func144 rfl Tryz.ntmps144 rfl (by rintro w ⟨⟨v,h⟩,_⟩;cases h) ?_;intro a ad;obtain⟨W,M0,X,E,f⟩:=aj _ _ m;have g:d.length<=maxLen:=by
  obtain⟨cu,J,M,ao,aW,_⟩:=(f.d 1 rfl:(b7 (fv .i64)).rd _ _ _ _)
  omega
 refine n9 ?_;intro K o;refine qD (by kernel_rfl) ?_;refine hq 4 [0,1,3] [0,0] (fr':=[(0,.func (.yield L) #[] #[]),(1,.dn fH),(3,.i (I.aw ((d.length:Int)-1)))]) (L:=[fH,0]) sT (hF (f.d 0 rfl).2.2 gX) ad (by kernel_rfl) ?_;intro a ad;rw[anv g]at ad;refine wpList_nil ?_;refine o _ _ ?_;refine abT ?_;refine anO (λ k a w=>∃(rem:F2),k=rem.length+1/\(∃pre,d=rem.reverse++pre)/\Fr ⟨19,[]⟩ [(0,.func (.yield L) #[] #[]),(1,.dn fH),(3,.i ((rem.length:Int)-1))] a/\n rem w) (d.length+1) ⟨d.reverse,by simp,⟨[],by simp⟩,by rw[lE];exact ad,m⟩ (by rintro a w ⟨rem,h,_⟩;omega) ?_;rintro k a w ⟨rem,j,⟨pre,i⟩,ad,b⟩ K p;refine n9 ?_;intro q s;refine n9 ?_;intro t u;refine qD (by kernel_rfl) ?_;refine hq 2 [0,1,3,8] [] (fr':=[(0,.func (.yield L) #[] #[]),(1,.dn fH),(3,.i ((rem.length:Int)-1)),(8,.bool (decide (0<=(rem.length:Int)-1)))]) (L:=[]) sT gX ad (by kernel_rfl) ?_;intro a ad;refine wpList_nil ?_;refine u _ _ ?_;refine abV (ad.g rfl) (λ ag=>?_) (λ ag=>?_)
 ·have ag:=of_decide_eq_true ag;match rem,ag,i,ad,b,j with
  |x::rem,_,i,ad,b,j=>
  have y:=aB8 i;have e:((x::rem).length:Int)-1=(rem.length:Int):=by simp
  rw[e]at ad;refine RU ?_;refine s _ _ ?_;refine n9 ?_;intro z B;refine abT ?_;refine n9 ?_;intro C D;refine aLm λ F=>?_;refine aEx 6 (by kernel_rfl) ?_;obtain⟨W,M0,X,E,f⟩:=aj _ _ b;refine hq 4 [0,1,3,11,12,13,14] [0,0] (fr':=[(0,.func (.yield L) #[] #[]),(1,.dn fH),(3,.i (rem.length:Int)),(11,.func (.yield L) #[] #[]),(12,.i (rem.length:Int)),(13,.q A c d),(14,.i (rem.length:Int))]) (L:=[fH,0]) sT (hF (f.d 0 rfl).2.2 gX) ad (by kernel_rfl) ?_;intro a ad;obtain⟨G,hi,_,rfl,hc⟩:=E3 _ (f.d 1 rfl) y;refine gi wn (qV Tryz.underlying22 Tryz.sizeOf3 rfl (ad.g rfl) (ad.g rfl) G hi) ad rfl rfl ?_;intro a ad;refine hq 1 [0,1,3,11,12,16] [0,0] (fr':=[(0,.func (.yield L) #[] #[]),(1,.dn fH),(3,.i (rem.length:Int)),(11,.func (.yield L) #[] #[]),(12,.i (rem.length:Int)),(16,.i x)]) (L:=[dC A,gd A+(rem.length:Int).toNat*1]) sT (hF hc gX) ad (by kernel_rfl) ?_;intro a ad;refine wpList_nil ?_;refine aOI (vs:=[.i (rem.length:Int),.i x]) wn rfl (ad.g rfl) ⟨ad.g rfl,ad.g rfl,trivial⟩ (hy x rem _ b) ad rfl rfl ?_;rintro _ w ⟨rfl,b⟩;refine⟨_,rfl,λ a ad=>?_⟩;refine PS F (by kernel_rfl) ?_;refine hq 1 [0,1,3,18] [] (fr':=[(0,.func (.yield L) #[] #[]),(1,.dn fH),(3,.i (rem.length:Int)),(18,.bool false)]) (L:=[]) sT gX ad (by kernel_rfl) ?_;intro a ad;refine wpList_nil ?_;refine D _ _ ?_;refine aLl (ad.g rfl) rfl ?_;refine RU ?_;refine B _ _ ?_;refine qD (by kernel_rfl) ?_;refine hq 3 [0,1,3] [] (fr':=[(0,.func (.yield L) #[] #[]),(1,.dn fH),(3,.i (I.aw ((rem.length:Int)-1)))]) (L:=[]) sT gX ad (by kernel_rfl) ?_;intro a ad;have l:rem.length<=maxLen:=by have:=congrArg h8 i;simp at this;omega
  rw[anv l]at ad;refine wpList_nil ?_;exact p _ _ ⟨rem,by simpa using j,⟨x::pre,by rw[i];simp⟩,ad,b⟩
 ·have ag:=of_decide_eq_false ag
  have H:rem=[]:=by
   cases rem with
   |nil=>rfl
   |cons x r=>exact absurd ag (by simp)
  subst H;refine abW ?_;refine uu ?_;refine uu ?_;refine IK ?_;refine au6 ?_;refine aIl Tryz.results144 ad ?_;exact⟨⟨_,rfl⟩,b⟩
theorem avC{W:World}{X:List Nat}{F:Nat}{f:I.bt}{O:Int}{r:List I.Field}{n:Nat}{o:jc}{u:Nat}{P:Nat}{Q:jc}{R:Nat}{M0:List Nat}(d:bz W M0 X W [] [bG.jJ n [.q o u f.l,.map (some P),.q Q R f.dB],cx I.k5 o u f.l,bG.map nS (Value.int .i64) P f.b4,cx (fv .i64) Q R f.dB])(h:I.vu F f O=some r) :
 Calls Tryz.prog 83 [.dn n,.i O].toArray W (λ e w'=>∃v:Option Addr,∃x:Nat,∃z:List Value,e= .returned (.q v x r)/\bz W M0 X w' [bc.row 136 3 (.q v x r) r z] [bG.rows I.jY z r]):=by
 refine af0 Tryz.func83 rfl Tryz.ntmps83 rfl λ a ad=>?_;rw[I.vu]at h;refine wp_seq_k λ K xb=>pU<|Bf (cs:=[.dn n]) wn (SQ rfl rfl (ad.g rfl)) ad d rfl rfl λ a B w _ ad d=>lU 1 [] [] ad λ a ad=>wpList_nil (xb _ _ ?_);refine wp_seq_k λ K sW=>pU<|Bf (cs:=[.slice none 0 0]) wn (Cm Tryz.zeroValue124 rfl rfl) ad d rfl rfl λ a q w _ ad d=>wpList_nil<|sW _ _<|wp_seq_k λ K nG=>wp_seq_k λ K xc=>pU ?_
 refine uQ 2 [0,0] [(8,.dn n),(9,.i O)] [B,0] (hF (lT (d.e 1 rfl)) gX) ad λ a ad=>?_;obtain⟨S,Y,h⟩:=I.gr h;have hc:=d;refine L4 (vs:=[.dn n,.i O]) wn rfl Tryz.call114 ⟨(ad.g rfl),(ad.g rfl),trivial⟩ (aeN ((hc.into 0).pick ⟨⟨0,rfl⟩,⟨1,rfl⟩,⟨2,rfl⟩,⟨3,rfl⟩,trivial⟩) Y) ad rfl rfl ?_;rintro _ w ⟨U,V,aQk,rfl,s⟩;refine⟨_,rfl,λ a ad=>?_⟩;have d:=hc.back 0 s;clear s hc;obtain⟨aar,Z,h⟩:=I.gr h;have hc:=d;have al:=hc.freeze 0 0 rfl rfl
 refine L4 (vs:=[.q U V S]) wn rfl Tryz.call116 ⟨(ad.g rfl),trivial⟩ (aeO ((al.into 0).pick ⟨⟨0,rfl⟩,trivial⟩) Z) ad rfl rfl ?_;rintro _ w ⟨C,rfl,s⟩;refine⟨_,rfl,λ a ad=>?_⟩;have j:br [] _ w:=s.bZ;have d:=hc.gJ 0 (by exact trivial) s;clear s hc al;clear j;refine wpList_nil ?_;have ad:=ad.cut (l':=[(2,.dn B),(5,.dn q),(11,.func (.func 144) #[] #[.dn C])]);refine xc _ _<|wp_block ?_;have d:=d.freeze 1 0 rfl rfl;have d:=d.ag3 0 rfl;have d:=d.Lq (α:=I.Field) 136 3
 have d:=d.more (y:=bG.rows I.jY [] []) rfl;obtain⟨aCx,WY,h⟩:=I.gr h
 refine aeK (c:=V) (A:=U) (β:=(Option Addr)×(Nat)×(List I.Field)×(List Value)) (l1:=λ _ t=>[(2,.dn B),(5,.dn q),(7,.i t)]) (λ((k,l,i,p):(Option Addr)×(Nat)×(List I.Field)×(List Value))=>[bc.row 136 3 (.q k l i) i p,bc.cp q 124 [.q k l i],bc.cp B 113 [.dn n]]) (λ((k,l,i,p):(Option Addr)×(Nat)×(List I.Field)×(List Value))=>[bG.rows I.jY p i,bG.jJ C [.q U V S],cx (fv .i64) U V S,bG.jJ n [.q o u f.l,.map (some P),.q Q R f.dB],cx I.k5 o u f.l,bG.map nS (Value.int .i64) P f.b4,cx (fv .i64) Q R f.dB]) (λ(Q7:F2)((k,l,i,p):(Option Addr)×(Nat)×(List I.Field)×(List Value))=>I.AK f Q7 i=some aCx) S (none,0,[],[]) 1 2 aeL Tryz.call144 ad rfl rfl rfl (d.im [0,1,2,4,5,6,7]) WY (λ b=>by obtain⟨_,_,_,_⟩:=b;rfl) (λ b=>by obtain⟨_,_,_,_⟩:=b;rfl) ?_ ?_ ?_
 ·clear h WY d ad;intro L aB5 t w a K ad b_;refine qD (by kernel_rfl)<|lU 1 [] [(7,.i t)] ad λ a ad=>wpList_nil ?_;exact b_ _ ad.cut
 ·clear h WY d ad;intro L g1 dz g2 cR b aB5 t Q7 w a K h ad d b_;obtain⟨k,l,i,p⟩:=b;dsimp only at h d;rw[I.AK]at h;refine abT<|anN (m:=11) 9 (br []) (by kernel_rfl) rfl (by kernel_rfl) λ w j=>?_;have d:=d.fi j;clear j;have g:=d;have cc:=br.refl [] w;refine eo [0,1,2,3,4,5] 6 [0,0,1,0,2,0] [(14,.q k l i),(18,.q o u f.l),(19,.i t)] [n,0,B,0,q,0] (λ dR j=>(hF (GD j (lT (g.e 3 rfl))) (hF (GD j (lT (g.e 4 rfl))) (hF (GD j (g.d 3 rfl).2.2) gX)))) ad cc λ a ad=>?_;obtain⟨D,aBX,h⟩:=I.gr h;obtain⟨ay7,aAv,_,⟨S7,T8,E,G,rfl,H,J⟩,azW⟩:=E3 _ (g.d 4 rfl) aBX;have g:=g.more (y:=cx I.jY S7 T8 D.Fields) H;have d:=d.more (y:=cx I.jY S7 T8 D.Fields) H;have g:=g.more (y:=cx I.r6 E G D.bp) J;have d:=d.more (y:=cx I.r6 E G D.bp) J;refine au1 6 rfl (by kernel_rfl) wn (λ dR=>qV Tryz.underlying25 Tryz.sizeOf134 rfl (ad.g rfl) (ad.g rfl) ay7 aAv) cc ad rfl rfl λ a ad=>?_;refine eo [7,8] 2 [0,2] [(22,.q S7 T8 D.Fields)] [dC o,gd o+(t).toNat*4+2] (λ dR j=>(hF (GD j azW) gX)) ad cc λ a ad=>nz 9 rfl (by kernel_rfl) (λ _=>cc) ?_;obtain⟨PL,aAJ,h⟩:=I.gr h;refine aJO (T:=I.jY) 2 2 1 d rfl rfl rfl Tryz.underlying124 aCi rfl rfl aAJ rfl wn rfl (ad.g rfl) (ad.g rfl) ad rfl rfl λ a M N aN' w ad d=>kL ?_;clear g cc;have g:=d;have cc:=br.refl [] w;refine fC.next 10 (br [] w) (by kernel_rfl)<|nz 10 rfl (by kernel_rfl) (λ _=>cc) ?_;refine yA (vs:=[.q M N PL]) 3 d rfl wn rfl Tryz.sizeOf124 rfl rfl rfl rfl (ad.g rfl) (ad.g rfl) rfl λ w d=>kL ?_;clear g cc;have g:=d;have cc:=br.refl [] w;refine fC.next 11 (br [] w) (by kernel_rfl)<|Nt (by kernel_rfl) ?_ (λ _=>cc);clear g cc;have ad:=ad.cut (l':=[]);exact b_ (M,N,PL,aN') _ _ h (d.im [0,4,5,6,7,8,9])
 clear d ad;intro aPj b a w WZ ad d;obtain⟨k,l,i,p⟩:=b;dsimp only at WZ d;rw[I.AK]at WZ;obtain rfl:=oi WZ;have ad:=ad.cut (l':=[(5,.dn q)]);refine nG _ _<|wp_seq_k λ K sX=>rg [0,0] [(4,.q k l i)] [q,0] (hF (lT (d.e 2 rfl)) gX) ad λ a ad=>sX _ _<|wp_ret ?_;obtain rfl:=oi h;refine aEO 0 Tryz.results83 ad d rfl rfl λ w d=>?_;exact⟨k,l,p,rfl,d.vR [1] [0]⟩
set_option maxHeartbeats 4000000
set_option maxRecDepth 20000
theorem avG{W:World}{X:List Nat}{F:Nat}{s_:List (List UInt8)}{f:List UInt8}{r:Int}{d:jc}{g:Nat}{M0:List Nat}(c:bz W M0 X W [] [cx jX d g s_])(h:I.Mi F s_ f=some r) :
 Calls Tryz.prog 117 [.q d g s_,cy f].toArray W (λ e w'=>e= .returned (.i r)/\bz W M0 X w' [] []):=by
 refine enter Tryz.func117 rfl Tryz.ntmps117 rfl λ a ad=>?_;rw[I.Mi]at h;refine rj [] [] ad λ a ad=>wp_seq_k λ K s=>rj [] [(7,.i (s_.length:Int)),(8,.i 0)] ad λ a ad=>?_;obtain⟨i,h,j⟩:=I.aJS h;refine NH (λ a w=>Fr ⟨19,[]⟩ [] a/\bz W M0 X w [] [cx jX d g s_]/\i=(.go ())) (λ K t=>?_) ?_
 ·refine Ua (λ(q:Nat) a w=>∃(b:Int),Fr ⟨19,[]⟩ [(0,.q d g s_),(1,cy f),(7,.i (s_.length:Int)),(8,.i b)] a/\bz W M0 X w [] [cx jX d g s_]/\I.BH s_ f q b=some i) F ⟨0,ad.cut,c,h⟩ ?_ ?_;rintro a w ⟨b,ad,c,h⟩;exact absurd h (by simp[I.BH]);rintro q a w ⟨b,ad,c,h⟩ K u;rw[I.BH]at h;refine rj [] [(9,.bool (decide (b<(s_.length:Int))))] ad λ a ad=>wp_seq_k λ K v=>NJ (ad.g rfl) h (λ k h=>?_) (λ k h=>?_);refine wp_skip<|v _ _<|wp_seq_k λ K x=>wp_block<|rj [] [(5,.i b)] ad λ a ad=>wp_seq_k λ K y=>pU<|lU 3 [] [(11,cy f),(12,.q d g s_),(13,.i b)] ad λ a ad=>?_;obtain⟨z,l,h⟩:=I.gr h;obtain⟨m,n,_,rfl,o⟩:=E3 _ (c.d 0 rfl) l;refine gi wn (qV Tryz.underlying120 Tryz.sizeOf9 rfl (ad.g rfl) (ad.g rfl) m n) ad rfl rfl λ a ad=>uQ 2 [0,0] [(16,.bool (decide (f=z)))] [dC d,gd d+(b).toNat*1] (hF o gX) ad λ a ad=>wpList_nil (y _ _ ?_);refine NJ (ad.g rfl) h (λ p h=>?_) (λ p h=>?_);refine Mk [] [(4,.i b)] ad λ a ad=>wp_ret ?_;obtain rfl:=oi h;obtain rfl:=oi j;refine ap7 (SG (SG (ap7 (SG (SG ?_)))));refine Br Tryz.results117 ad rfl ?_;exact⟨rfl,c.vR [] []⟩;refine wp_skip<|x _ _<|afn [] [(8,.i (I.aw (b+1)))] ad λ a ad=>?_;exact u _ _ ⟨I.aw (b+1),ad.cut,c,h⟩;refine wp_exit<|uu (uu (IK ?_));exact t _ _ ⟨ad.cut,c,(os h)⟩
 rintro a w ⟨ad,c,aA⟩;subst i;have h:=j;clear j;dsimp only[I.aeY]at h;refine s _ _<|Mk [] [(4,.i (-1))] ad λ a ad=>wp_ret ?_;obtain rfl:=oi h;refine Br Tryz.results117 ad rfl ?_;exact⟨rfl,c.vR [] []⟩
theorem avD{W:World}{X:List Nat}{F:Nat}{g:I.bt}{dy:Int}{r:(List (List UInt8))×(List I.Target)}{o:Nat}{p:jc}{t:Nat}{u:Nat}{v:jc}{z:Nat}{M0:List Nat}(d:bz W M0 X W [] [bG.jJ o [.q p t g.l,.map (some u),.q v z g.dB],cx I.k5 p t g.l,bG.map nS (Value.int .i64) u g.b4,cx (fv .i64) v z g.dB])(h:I.EA F g dy=some r) :
 Calls Tryz.prog 82 [.dn o,.i dy].toArray W (λ e w'=>∃adF:Option Addr,∃aeE:Nat,∃aqa:List Value,∃adG:Option Addr,∃aeF:Nat,∃aqb:List Value,e= .returned (.tuple #[.q adF aeE r.1,.q adG aeF r.2])/\bz W M0 X w' [bc.row 9 1 (.q adF aeE r.1) r.1 aqa,bc.row 166 2 (.q adG aeF r.2) r.2 aqb] [bG.rows jX aqa r.1,bG.rows I.k6 aqb r.2]):=by
 refine af0 Tryz.func82 rfl Tryz.ntmps82 rfl λ a ad=>?_;rw[I.EA]at h;refine wp_seq_k λ K xb=>pU<|Bf (cs:=[.dn o]) wn (SQ rfl rfl (ad.g rfl)) ad d rfl rfl λ a P w _ ad d=>lU 2 [] [] ad λ a ad=>wpList_nil (xb _ _ ?_);refine wp_seq_k λ K sW=>pU<|Bf (cs:=[.slice none 0 0]) wn (Cm Tryz.zeroValue120 rfl rfl) ad d rfl rfl λ a n w _ ad d=>wpList_nil<|sW _ _<|wp_seq_k λ K nG=>pU<|Bf (cs:=[.slice none 0 0]) wn (Cm Tryz.zeroValue121 rfl rfl) ad d rfl rfl λ a lk w _ ad d=>wpList_nil ?_
 refine nG _ _<|wp_seq_k λ K xc=>wp_seq_k λ K sX=>pU<|uQ 2 [0,0] [(14,.dn o),(15,.i dy)] [P,0] (hF (lT (d.e 2 rfl)) gX) ad λ a ad=>?_;obtain⟨B,aBh,h⟩:=I.gr h;have hc:=d;refine L4 (vs:=[.dn o,.i dy]) wn rfl Tryz.call114 ⟨(ad.g rfl),(ad.g rfl),trivial⟩ (aeN ((hc.into 0).pick ⟨⟨0,rfl⟩,⟨1,rfl⟩,⟨2,rfl⟩,⟨3,rfl⟩,trivial⟩) aBh) ad rfl rfl ?_;rintro _ w ⟨C,D,aQl,rfl,N⟩;refine⟨_,rfl,λ a ad=>?_⟩;have d:=hc.back 0 N;clear N hc;obtain⟨iq,aBj,h⟩:=I.gr h;have hc:=d
 have al:=hc.freeze 0 0 rfl rfl;refine L4 (vs:=[.q C D B]) wn rfl Tryz.call116 ⟨(ad.g rfl),trivial⟩ (aeO ((al.into 0).pick ⟨⟨0,rfl⟩,trivial⟩) aBj) ad rfl rfl ?_;rintro _ w ⟨GI,rfl,N⟩;refine⟨_,rfl,λ a ad=>?_⟩;have f:br [] _ w:=N.bZ;have d:=hc.gJ 0 (by exact trivial) N;clear N hc al;clear f;refine wpList_nil ?_;have ad:=ad.cut (l':=[(2,.dn P),(6,.dn n),(7,.dn lk),(17,.func (.func 144) #[] #[.dn GI])]);refine sX _ _<|wp_block ?_;have d:=d.freeze 1 0 rfl rfl
 have d:=d.ag3 0 rfl;have d:=d.Lq (α:=I.Target) 166 2;have d:=d.more (y:=bG.rows I.k6 [] []) rfl;have d:=d.Lq (α:=List UInt8) 9 1;have d:=d.more (y:=bG.rows jX [] []) rfl;obtain⟨aCw,WW,h⟩:=I.gr h
 refine aeK (c:=D) (A:=C) (β:=(Option Addr)×(Nat)×(List (List UInt8))×(List Value)×(Option Addr)×(Nat)×(List I.Target)×(List Value)) (l1:=λ _ k=>[(2,.dn P),(6,.dn n),(7,.dn lk),(9,.i k)]) (λ((Q,R,mc,V,S,U,G,Y):(Option Addr)×(Nat)×(List (List UInt8))×(List Value)×(Option Addr)×(Nat)×(List I.Target)×(List Value))=>[bc.row 9 1 (.q Q R mc) mc V,bc.row 166 2 (.q S U G) G Y,bc.cp lk 121 [.q S U G],bc.cp n 120 [.q Q R mc],bc.cp P 113 [.dn o]]) (λ((Q,R,mc,V,S,U,G,Y):(Option Addr)×(Nat)×(List (List UInt8))×(List Value)×(Option Addr)×(Nat)×(List I.Target)×(List Value))=>[bG.rows jX V mc,bG.rows I.k6 Y G,bG.jJ GI [.q C D B],cx (fv .i64) C D B,bG.jJ o [.q p t g.l,.map (some u),.q v z g.dB],cx I.k5 p t g.l,bG.map nS (Value.int .i64) u g.b4,cx (fv .i64) v z g.dB]) (λ(Q8:F2)((Q,R,mc,V,S,U,G,Y):(Option Addr)×(Nat)×(List (List UInt8))×(List Value)×(Option Addr)×(Nat)×(List I.Target)×(List Value))=>I.AP F g Q8 mc G=some aCw) B (none,0,[],[],none,0,[],[]) 2 3 aeL Tryz.call144 ad rfl rfl rfl (d.im [0,0,2,3,5,6,7,8]) WW (λ b=>by obtain⟨_,_,_,_,_,_,_,_⟩:=b;rfl) (λ b=>by obtain⟨_,_,_,_,_,_,_,_⟩:=b;rfl) ?_ ?_ ?_
 ·clear h WW d ad;intro L aB6 k w a K ad b_;refine qD (by kernel_rfl)<|lU 1 [] [(9,.i k)] ad λ a ad=>wpList_nil ?_;exact b_ _ ad.cut
 ·clear h WW d ad;intro L g1 dz g2 cR b aB6 k Q8 w a K h ad d b_;obtain⟨Q,R,mc,V,S,U,G,Y⟩:=b;dsimp only at h d;rw[I.AP]at h;obtain⟨ai0,h,WT⟩:=I.gr h;refine abU (λ a w=>∃(M4:jc)(NA:Nat)(xW:List (List UInt8))(SJ:pM)(M5:jc)(NB:Nat)(xX:List I.Target)(SK:pM),Fr ⟨59,[]⟩ [] a/\bz W M0 X w [bc.obj g1 dz,bc.obj g2 cR,bc.row 9 1 (.q M4 NA xW) xW SJ,bc.row 166 2 (.q M5 NB xX) xX SK,bc.cp lk 121 [.q M5 NB xX],bc.cp n 120 [.q M4 NA xW],bc.cp P 113 [.dn o]] [bG.rows jX SJ xW,bG.rows I.k6 SK xX,bG.jJ GI [.q C D B],cx (fv .i64) C D B,bG.jJ o [.q p t g.l,.map (some u),.q v z g.dB],cx I.k5 p t g.l,bG.map nS (Value.int .i64) u g.b4,cx (fv .i64) v z g.dB]/\ai0=(xW,xX)) (λ K J7=>?_) ?_
  ·clear WT;refine n9 λ K J8=>qD (by kernel_rfl)<|uQ 5 [0,0,1,0] [(23,.q p t g.l),(24,.i k)] [o,0,P,0] (hF (lT (d.e 6 rfl)) (hF (d.d 4 rfl).2.2 gX)) ad λ a ad=>?_;obtain⟨l,aBY,h⟩:=I.gr h;obtain⟨ay6,aAu,_,⟨M6,NC,q,E,rfl,az6,az7⟩,azV⟩:=E3 _ (d.d 5 rfl) aBY;have d:=d.more (y:=cx I.jY M6 NC l.Fields) az6;have d:=d.more (y:=cx I.r6 q E l.bp) az7;refine gi wn (qV Tryz.underlying25 Tryz.sizeOf134 rfl (ad.g rfl) (ad.g rfl) ay6 aAu) ad rfl rfl λ a ad=>?_;refine uQ 4 [0,3] [(27,.q q E l.bp),(28,.i (l.bp.length:Int)),(29,.i 0)] [dC p,gd p+(k).toNat*4+3] (hF azV gX) ad λ a ad=>wpList_nil (J8 _ _ ?_);obtain⟨X4,h,WU⟩:=I.gr h;refine abU (λ a w=>∃(M7:jc)(ND:Nat)(xY:List (List UInt8))(SL:pM)(M8:jc)(NE:Nat)(xZ:List I.Target)(SM:pM),Fr ⟨59,[]⟩ [] a/\bz W M0 X w [bc.obj g1 dz,bc.obj g2 cR,bc.row 9 1 (.q M7 ND xY) xY SL,bc.row 166 2 (.q M8 NE xZ) xZ SM,bc.cp lk 121 [.q M8 NE xZ],bc.cp n 120 [.q M7 ND xY],bc.cp P 113 [.dn o]] [bG.rows jX SL xY,bG.rows I.k6 SM xZ,cx I.r6 q E l.bp,cx I.jY M6 NC l.Fields,bG.jJ GI [.q C D B],cx (fv .i64) C D B,bG.jJ o [.q p t g.l,.map (some u),.q v z g.dB],cx I.k5 p t g.l,bG.map nS (Value.int .i64) u g.b4,cx (fv .i64) v z g.dB]/\X4=(xY,xZ)) (λ K J9=>?_) ?_
   ·clear WU;refine anO (λ(eM:Nat) a w=>∃(H:jc)(J:Nat)(s:List (List UInt8))(IP:pM)(Z:jc)(zL:Nat)(O:List I.Target)(MU:pM)(i:Int),Fr ⟨59,[]⟩ [(6,.dn n),(7,.dn lk),(9,.i k),(27,.q q E l.bp),(28,.i (l.bp.length:Int)),(29,.i i)] a/\bz W M0 X w [bc.obj g1 dz,bc.obj g2 cR,bc.row 9 1 (.q H J s) s IP,bc.row 166 2 (.q Z zL O) O MU,bc.cp lk 121 [.q Z zL O],bc.cp n 120 [.q H J s],bc.cp P 113 [.dn o]] [bG.rows jX IP s,bG.rows I.k6 MU O,cx I.r6 q E l.bp,cx I.jY M6 NC l.Fields,bG.jJ GI [.q C D B],cx (fv .i64) C D B,bG.jJ o [.q p t g.l,.map (some u),.q v z g.dB],cx I.k5 p t g.l,bG.map nS (Value.int .i64) u g.b4,cx (fv .i64) v z g.dB]/\I.AQ F k l eM s O i=some X4) F ⟨Q,R,mc,V,S,U,G,Y,0,ad.cut,d.im [2,3,0,1,4,5,6,7,8,9],h⟩ ?_ ?_;rintro a w ⟨H,J,s,IP,Z,zL,O,MU,i,ad,d,h⟩;exact absurd h (by simp[I.AQ]);rintro eM a w ⟨H,J,s,IP,Z,zL,O,MU,i,ad,d,h⟩ K Wp;rw[I.AQ]at h;refine n9 λ K J6=>qD (by kernel_rfl)<|lU 1 [] [(30,.bool (decide (i<(l.bp.length:Int))))] ad λ a ad=>wpList_nil (J6 _ _ ?_);refine n9 λ K azh=>abV (ad.g rfl) (λ Wz=>?_) (λ Wz=>?_)
    ·have h:=I.Uj Wz h;refine RU<|azh _ _<|n9 λ K azi=>?_;obtain⟨ai1,h,WV⟩:=I.gr h;refine abU (λ a w=>∃(M9:jc)(NF:Nat)(x0:List (List UInt8))(SN:pM)(M_:jc)(NG:Nat)(x1:List I.Target)(SP:pM),Fr ⟨59,[]⟩ [(6,.dn n),(7,.dn lk),(9,.i k),(27,.q q E l.bp),(28,.i (l.bp.length:Int)),(29,.i i)] a/\bz W M0 X w [bc.obj g1 dz,bc.obj g2 cR,bc.row 9 1 (.q M9 NF x0) x0 SN,bc.row 166 2 (.q M_ NG x1) x1 SP,bc.cp lk 121 [.q M_ NG x1],bc.cp n 120 [.q M9 NF x0],bc.cp P 113 [.dn o]] [bG.rows jX SN x0,bG.rows I.k6 SP x1,cx I.r6 q E l.bp,cx I.jY M6 NC l.Fields,bG.jJ GI [.q C D B],cx (fv .i64) C D B,bG.jJ o [.q p t g.l,.map (some u),.q v z g.dB],cx I.k5 p t g.l,bG.map nS (Value.int .i64) u g.b4,cx (fv .i64) v z g.dB]/\ai1=(x0,x1)) (λ K OO=>?_) ?_
     ·clear WV;refine n9 λ K azj=>qD (by kernel_rfl)<|lU 1 [] [(31,.i i)] ad λ a ad=>?_;obtain⟨gn,aBZ,h⟩:=I.gr h;obtain⟨ay8,aAw,_,⟨S8,T9,S9,T_,rfl,az8,az9⟩,azX⟩:=E3 _ (d.d 2 rfl) aBZ;have d:=d.more (y:=cx I.E8 S8 T9 gn.cF) az8;have d:=d.more (y:=cx I.E7 S9 T_ gn.cL) az9;refine gi wn (qV Tryz.underlying132 Tryz.sizeOf131 rfl (ad.g rfl) (ad.g rfl) ay8 aAw) ad rfl rfl λ a ad=>?_;refine uQ 1 [0,0] [(33,.agg #[cy gn.Name,.bool gn.Static,.q S8 T9 gn.cF,.i gn.Returns.Kind,cy gn.Returns.aq,.i gn.ia,.i gn.h9,cy gn.Code,.q S9 T_ gn.cL])] [dC q,gd q+(i).toNat*9] (hF azX gX) ad λ a ad=>Bf (cs:=[cy [],.bool false,.slice none 0 0,.i 0,cy [],.i 0,.i 0,cy [],.slice none 0 0]) wn (Cm Tryz.zeroValue131 rfl rfl) ad d rfl rfl λ a Vp w _ ad d=>lU 1 [] [(10,.i i)] ad λ a ad=>?_;refine yA (vs:=[cy gn.Name,.bool gn.Static,.q S8 T9 gn.cF,.i gn.Returns.Kind,cy gn.Returns.aq,.i gn.ia,.i gn.h9,cy gn.Code,.q S9 T_ gn.cL]) 0 d rfl wn rfl Tryz.sizeOf131 rfl rfl rfl rfl (ad.g rfl) (ad.g rfl) rfl λ w d=>wpList_nil<|azj _ _<|n9 λ K azk=>qD (by kernel_rfl)<|lU 2 [] [(34,.i k),(35,.i i)] ad λ a ad=>?_;refine gi wn (aOf (vs:=[(0,.i k),(1,.i i)]) (cs:=[.i k,.i i]) Tryz.zeroValue166 Tryz.underlying166 aGq rfl ⟨⟨(ad.g rfl),rfl⟩,⟨(ad.g rfl),rfl⟩,trivial⟩ (by kernel_rfl)) ad rfl rfl λ a ad=>Bf (cs:=[.i 0,.i 0]) wn (Cm Tryz.zeroValue166 rfl rfl) ad d rfl rfl λ a Vq w _ ad d=>yA (vs:=[.i k,.i i]) 0 d rfl wn rfl Tryz.sizeOf166 rfl rfl rfl rfl (ad.g rfl) (ad.g rfl) rfl λ w d=>wpList_nil ?_;have ad:=ad.cut (l':=[(6,.dn n),(7,.dn lk),(9,.i k),(11,.dn Vp),(12,.dn Vq),(27,.q q E l.bp),(28,.i (l.bp.length:Int)),(29,.i i)]);refine azk _ _<|n9 λ K azl=>n9 λ K azm=>qD (by kernel_rfl)<|uQ 3 [0,0,1,0] [(37,.q H J s),(39,cy gn.Name)] [Vp,0,n,0] (hF (lT (d.e 7 rfl)) (hF (lT (d.e 1 rfl)) gX)) ad λ a ad=>?_;obtain⟨E1,aBk,h⟩:=I.gr h;have hc:=d;have al:=hc.freeze 4 2 rfl rfl;refine L4 (vs:=[.q H J s,cy gn.Name]) wn rfl Tryz.call117 ⟨(ad.g rfl),(ad.g rfl),trivial⟩ (avG ((al.into 0).pick ⟨⟨0,rfl⟩,trivial⟩) aBk) ad rfl rfl ?_;rintro _ w ⟨rfl,N⟩;refine⟨_,rfl,λ a ad=>?_⟩;have f:br [] _ w:=N.bZ;have d:=hc.gJ 0 (by exact trivial) N;clear N hc al;clear f;refine lU 1 [] [(13,.i E1)] ad λ a ad=>wpList_nil (azm _ _ ?_);refine n9 λ K azn=>qD (by kernel_rfl)<|lU 2 [] [(42,.bool (decide (0<=E1)))] ad λ a ad=>wpList_nil (azn _ _ ?_);refine abV (ad.g rfl) (λ WA=>?_) (λ WA=>?_)
      ·have h:=I.Uj WA h;refine n9 λ K azo=>qD (by kernel_rfl)<|uQ 3 [0,0,1,0] [(43,.q Z zL O),(44,.i E1),(45,.agg #[.i k,.i i])] [Vq,0,lk,0] (hF (lT (d.e 6 rfl)) (hF (lT (d.e 0 rfl)) gX)) ad λ a ad=>?_;obtain⟨ac6,aiH,h⟩:=I.gr h;obtain⟨ay9,aAx,_,rfl,azY⟩:=aJf (d.e 5 rfl) (d.d 3 rfl) aiH;refine gi wn (qV Tryz.underlying121 Tryz.sizeOf166 rfl (ad.g rfl) (ad.g rfl) ay9 aAx) ad rfl rfl λ a ad=>?_;obtain⟨Yl,aAH,h⟩:=I.gr h;refine aJ_ (T:=I.k6) (d':=(⟨k,i⟩:I.Target)) (vs:=[.i k,.i i]) (cs0:=[.i ac6.aq,.i ac6.Method]) (kk:=0) 5 3 aAH d rfl rfl aiH rfl azY wn rfl Tryz.sizeOf166 rfl rfl rfl rfl rfl (ad.g rfl) (ad.g rfl) rfl λ aN9 w M f d=>?_;try unfold Value.q at d;try unfold Value.q at ad;rw[M]at d;try rw[M]at ad;clear M;clear f;refine wpList_nil ?_;have ad:=ad.cut (l':=[(6,.dn n),(7,.dn lk),(9,.i k),(27,.q q E l.bp),(28,.i (l.bp.length:Int)),(29,.i i)]);refine azo _ _<|abW<|uu (IK ?_)
       exact OO _ _ ⟨H,J,s,IP,Z,zL,Yl,aN9,ad.cut,d.vR [2,3,4,5,6,7,8] [3,0,5,6,7,8,9,10,11,12],(os h)⟩
      have h:=I.Ui WA h;refine RU<|azl _ _<|anN (m:=11) 8 (br (Value.q H J s).ownBlock.toList) (by kernel_rfl) rfl (by kernel_rfl) λ w f=>?_;have d:=d.fi f;clear f;have j:=d;have cc:=br.refl (Value.q H J s).ownBlock.toList w;refine eo [0,1,2,5,6] 5 [0,0,1,0,2,0,3,0] [(47,.q H J s),(49,cy gn.Name),(52,.q Z zL O),(53,.agg #[.i k,.i i])] [Vq,0,lk,0,Vp,0,n,0] (λ dR f=>(hF (Ob f (j.Qu 7 4 rfl rfl (by decide)) (Jt (j.e 7 rfl)) (lT (j.e 7 rfl))) (hF (Ob f (j.Qu 1 4 rfl rfl (by decide)) (Jt (j.e 1 rfl)) (lT (j.e 1 rfl))) (hF (Ob f (j.Qu 6 4 rfl rfl (by decide)) (Jt (j.e 6 rfl)) (lT (j.e 6 rfl))) (hF (Ob f (j.Qu 0 4 rfl rfl (by decide)) (Jt (j.e 0 rfl)) (lT (j.e 0 rfl))) gX))))) ad cc λ a ad=>ad' 3 7 rfl rfl (by kernel_rfl) (λ _=>cc) ?_ ?_;refine Lr (cs:=[cy gn.Name]) wn (FN (vs:=[(0,cy gn.Name)]) Tryz.underlying120 Tryz.sizeOf9 Tryz.zeroValue9 rfl rfl rfl ⟨⟨(ad.g rfl),rfl⟩,trivial⟩ (by kernel_rfl)) ad d rfl rfl λ a ayQ w f Kk ad d=>?_;have Kk:=hl cc.size Kk;have cc:=cc.trans f (by simp);clear f;refine kL<|ad' 4 7 rfl rfl (by kernel_rfl) (λ _=>cc) ?_ ?_;obtain⟨PK,aAI,h⟩:=I.gr h;refine aa7 (T:=jX) (ml:=[gn.Name]) 5 0 2 d rfl rfl rfl Tryz.underlying120 XP rfl rfl aAI rfl rfl ⟨_,_,rfl,rfl,rfl⟩ wn rfl (ad.g rfl) (ad.g rfl) ad rfl rfl λ a adE aeD aN_ w f ad d=>?_;have cc:=cc.trans f (λ x aa=>.inl aa);clear f;refine kL<|nz 7 rfl (by kernel_rfl) (λ _=>cc)<|Lr (cs:=[.i k,.i i]) wn (FN (vs:=[(0,.agg #[.i k,.i i])]) Tryz.underlying121 Tryz.sizeOf166 Tryz.zeroValue166 rfl rfl rfl ⟨⟨(ad.g rfl),rfl⟩,trivial⟩ (by kernel_rfl)) ad d rfl rfl λ a aPh w f ah1 ad d=>?_;have ah1:=hl cc.size ah1;have cc:=cc.trans f (by simp);clear f;refine kL ?_;refine nz 8 rfl (by kernel_rfl) (λ _=>cc) ?_;obtain⟨vo,Kz,h⟩:=I.gr h;refine L3 (T:=I.k6) (ml:=[(⟨k,i⟩:I.Target)]) 6 0 4 d rfl rfl rfl Tryz.underlying121 XO rfl rfl Kz rfl rfl ⟨_,_,rfl,rfl,rfl⟩ wn rfl (ad.g rfl) (ad.g rfl) ad rfl rfl λ a y_ zM MV w ad d=>kL ?_;clear j cc;have j:=d;have cc:=br.refl [] w;refine fC.next 9 (br [] w) (by kernel_rfl)<|nz 9 rfl (by kernel_rfl) (λ _=>cc)<|yA (vs:=[.q adE aeD PK]) 7 d rfl wn rfl Tryz.sizeOf120 rfl rfl rfl rfl (ad.g rfl) (ad.g rfl) rfl λ w d=>kL ?_;clear j cc;have j:=d;have cc:=br.refl [] w;refine fC.next 10 (br [] w) (by kernel_rfl)<|nz 10 rfl (by kernel_rfl) (λ _=>cc)<|yA (vs:=[.q y_ zM vo]) 6 d rfl wn rfl Tryz.sizeOf121 rfl rfl rfl rfl (ad.g rfl) (ad.g rfl) rfl λ w d=>kL ?_;clear j cc;have j:=d;have cc:=br.refl [] w;refine fC.next 11 (br [] w) (by kernel_rfl)<|Nt (by kernel_rfl) ?_ (λ _=>cc);clear j cc;have ad:=ad.cut (l':=[(6,.dn n),(7,.dn lk),(9,.i k),(27,.q q E l.bp),(28,.i (l.bp.length:Int)),(29,.i i)]);exact OO _ _ ⟨adE,aeD,PK,aN_,y_,zM,vo,MV,ad.cut,d.vR [2,3,4,5,6,7,8] [1,0,6,7,8,9,10,11,12,13],(os h)⟩;refine Lr (cs:=[.i k,.i i]) wn (FN (vs:=[(0,.agg #[.i k,.i i])]) Tryz.underlying121 Tryz.sizeOf166 Tryz.zeroValue166 rfl rfl rfl ⟨⟨(ad.g rfl),rfl⟩,trivial⟩ (by kernel_rfl)) ad d rfl rfl λ a ayR w f Kl ad d=>?_;have Kl:=hl cc.size Kl;have cc:=cc.trans f (by simp);clear f;refine kL<|nz 4 rfl (by kernel_rfl) (λ _=>cc) ?_;obtain⟨K5,W1,h⟩:=I.gr h;refine aa7 (T:=jX) (ml:=[gn.Name]) 6 1 2 d rfl rfl rfl Tryz.underlying120 XP rfl rfl W1 rfl rfl ⟨_,_,rfl,rfl,rfl⟩ wn rfl (ad.g rfl) (ad.g rfl) ad rfl rfl λ a IZ Jx adm w f ad d=>?_;have cc:=cc.trans f (λ x aa=>.inl aa);clear f;refine kL ?_;refine nz 8 rfl (by kernel_rfl) (λ _=>cc) ?_;obtain⟨vo,Kz,h⟩:=I.gr h;refine L3 (T:=I.k6) (ml:=[(⟨k,i⟩:I.Target)]) 6 0 4 d rfl rfl rfl Tryz.underlying121 XO rfl rfl Kz rfl rfl ⟨_,_,rfl,rfl,rfl⟩ wn rfl (ad.g rfl) (ad.g rfl) ad rfl rfl λ a y_ zM MV w ad d=>kL ?_;clear j cc;have j:=d;have cc:=br.refl [] w;refine fC.next 9 (br [] w) (by kernel_rfl)<|nz 9 rfl (by kernel_rfl) (λ _=>cc)<|yA (vs:=[.q IZ Jx K5]) 7 d rfl wn rfl Tryz.sizeOf120 rfl rfl rfl rfl (ad.g rfl) (ad.g rfl) rfl λ w d=>kL ?_;clear j cc;have j:=d;have cc:=br.refl [] w;refine fC.next 10 (br [] w) (by kernel_rfl)<|nz 10 rfl (by kernel_rfl) (λ _=>cc)<|yA (vs:=[.q y_ zM vo]) 6 d rfl wn rfl Tryz.sizeOf121 rfl rfl rfl rfl (ad.g rfl) (ad.g rfl) rfl λ w d=>kL ?_;clear j cc;have j:=d;have cc:=br.refl [] w;refine fC.next 11 (br [] w) (by kernel_rfl)<|Nt (by kernel_rfl) ?_ (λ _=>cc);clear j cc;have ad:=ad.cut (l':=[(6,.dn n),(7,.dn lk),(9,.i k),(27,.q q E l.bp),(28,.i (l.bp.length:Int)),(29,.i i)]);exact OO _ _ ⟨IZ,Jx,K5,adm,y_,zM,vo,MV,ad.cut,d.vR [2,3,4,5,6,7,8] [1,0,6,7,8,9,10,11,12,13],(os h)⟩;refine Lr (cs:=[.i k,.i i]) wn (FN (vs:=[(0,.agg #[.i k,.i i])]) Tryz.underlying121 Tryz.sizeOf166 Tryz.zeroValue166 rfl rfl rfl ⟨⟨(ad.g rfl),rfl⟩,trivial⟩ (by kernel_rfl)) ad d rfl rfl λ a ayQ w f Kk ad d=>?_;have Kk:=hl cc.size Kk;have cc:=cc.trans f (by simp);clear f;refine kL<|nz 3 rfl (by kernel_rfl) (λ _=>cc)<|Lr (cs:=[cy gn.Name]) wn (FN (vs:=[(0,cy gn.Name)]) Tryz.underlying120 Tryz.sizeOf9 Tryz.zeroValue9 rfl rfl rfl ⟨⟨(ad.g rfl),rfl⟩,trivial⟩ (by kernel_rfl)) ad d rfl rfl λ a ayR w f Kl ad d=>?_;have Kl:=hl cc.size Kl;have cc:=cc.trans f (by simp);clear f;refine kL ?_;refine nz 4 rfl (by kernel_rfl) (λ _=>cc) ?_;obtain⟨K5,W1,h⟩:=I.gr h;refine aa7 (T:=jX) (ml:=[gn.Name]) 6 0 2 d rfl rfl rfl Tryz.underlying120 XP rfl rfl W1 rfl rfl ⟨_,_,rfl,rfl,rfl⟩ wn rfl (ad.g rfl) (ad.g rfl) ad rfl rfl λ a IZ Jx adm w f ad d=>?_;have cc:=cc.trans f (λ x aa=>.inl aa);clear f;refine kL<|nz 8 rfl (by kernel_rfl) (λ _=>cc) ?_;obtain⟨vo,Kz,h⟩:=I.gr h;refine L3 (T:=I.k6) (ml:=[(⟨k,i⟩:I.Target)]) 6 0 4 d rfl rfl rfl Tryz.underlying121 XO rfl rfl Kz rfl rfl ⟨_,_,rfl,rfl,rfl⟩ wn rfl (ad.g rfl) (ad.g rfl) ad rfl rfl λ a y_ zM MV w ad d=>kL ?_;clear j cc;have j:=d;have cc:=br.refl [] w;refine fC.next 9 (br [] w) (by kernel_rfl)<|nz 9 rfl (by kernel_rfl) (λ _=>cc)<|yA (vs:=[.q IZ Jx K5]) 7 d rfl wn rfl Tryz.sizeOf120 rfl rfl rfl rfl (ad.g rfl) (ad.g rfl) rfl λ w d=>kL ?_;clear j cc;have j:=d;have cc:=br.refl [] w;refine fC.next 10 (br [] w) (by kernel_rfl)<|nz 10 rfl (by kernel_rfl) (λ _=>cc)<|yA (vs:=[.q y_ zM vo]) 6 d rfl wn rfl Tryz.sizeOf121 rfl rfl rfl rfl (ad.g rfl) (ad.g rfl) rfl λ w d=>kL ?_;clear j cc;have j:=d;have cc:=br.refl [] w;refine fC.next 11 (br [] w) (by kernel_rfl)<|Nt (by kernel_rfl) ?_ (λ _=>cc);clear j cc;have ad:=ad.cut (l':=[(6,.dn n),(7,.dn lk),(9,.i k),(27,.q q E l.bp),(28,.i (l.bp.length:Int)),(29,.i i)]);exact OO _ _ ⟨IZ,Jx,K5,adm,y_,zM,vo,MV,ad.cut,d.vR [2,3,4,5,6,7,8] [1,0,6,7,8,9,10,11,12,13],(os h)⟩
     rintro a w ⟨M9,NF,x0,SN,M_,NG,x1,SP,ad,d,aA⟩;subst ai1;have h:=WV;clear WV;dsimp only at h;refine azi _ _<|qD (by kernel_rfl)<|lU 2 [] [(29,.i (I.aw (i+1)))] ad λ a ad=>wpList_nil ?_;exact Wp _ _ ⟨M9,NF,x0,SN,M_,NG,x1,SP,I.aw (i+1),ad.cut,d,h⟩
    have h:=I.Ui Wz h;refine abW<|uu (uu (IK ?_));exact J9 _ _ ⟨H,J,s,IP,Z,zL,O,MU,ad.cut,d,(os h)⟩
   rintro a w ⟨M7,ND,xY,SL,M8,NE,xZ,SM,ad,d,aA⟩;subst X4;have h:=WU;clear WU;dsimp only at h;exact J7 _ _ ⟨M7,ND,xY,SL,M8,NE,xZ,SM,ad.cut,d.im [0,1,4,5,6,7,8,9],(os h)⟩
  rintro a w ⟨M4,NA,xW,SJ,M5,NB,xX,SK,ad,d,aA⟩;subst ai0;have h:=WT;clear WT;dsimp only at h;exact b_ (M4,NA,xW,SJ,M5,NB,xX,SK) _ _ h (d)
 clear d ad;intro aPi b a w WX ad d;obtain⟨Q,R,mc,V,S,U,G,Y⟩:=b;dsimp only at WX d;rw[I.AP]at WX;obtain rfl:=oi WX;have ad:=ad.cut (l':=[(6,.dn n),(7,.dn lk)]);dsimp only at h;refine xc _ _<|wp_seq_k λ K azp=>avF (by kernel_rfl) (by kernel_rfl)<|aG2 4 [0,0,1,0] [(4,.q Q R mc),(5,.q S U G)] [lk,0,n,0] (λ dR f=>(hF (GD f (lT (d.e 4 rfl))) (hF (GD f (lT (d.e 3 rfl))) gX))) ad λ a ad=>wpQuiet_nil λ w f=>?_;have d:=d.fi f;clear f;refine azp _ _<|wp_ret ?_
 obtain rfl:=oi h;refine aEP 0 Tryz.results82 ad d rfl rfl rfl λ w d=>?_;exact⟨Q,R,V,S,U,Y,rfl,d.vR [1,2] [0,1]⟩
section
variable{F:Nat->Prop}{w:World}
theorem avd{cs:List Value}{d:I.Kind}(h:(bs.ty 128).rd F w cs d):I.E8.rd F w cs d:=by change fs (λ t=>(fZ N6 t).ty) F w [.i .i64,.s] cs (d.Kind,d.aq,())at h;obtain⟨_,_,rfl,rfl,_,_,rfl,rfl,rfl⟩:=h;rfl
theorem avc{cs:List Value}{d:I.Handler}(h:(bs.ty 157).rd F w cs d):I.E7.rd F w cs d:=by change fs (λ t=>(fZ N4 t).ty) F w [.i .i64,.i .i64,.i .i64,.s] cs (d.From,d.To,d.At,d.aq,())at h;obtain⟨_,_,rfl,rfl,_,_,rfl,rfl,_,_,rfl,rfl,_,_,rfl,rfl,rfl⟩:=h;rfl
theorem avb{cs:List Value}{d:I.Field}(h:(bs.ty 136).rd F w cs d):I.jY.rd F w cs d:=by change fs (λ t=>(fZ JK t).ty) F w [.s,.i .i64,.s] cs (d.Name,d.Kind.Kind,d.Kind.aq,())at h;obtain⟨_,_,rfl,rfl,_,_,rfl,rfl,_,_,rfl,rfl,rfl⟩:=h;rfl
theorem ave{cs:List Value}{d:I.Method}(h:(bs.ty 131).rd F w cs d):I.r6.rd F w cs d:=by change fs (λ t=>(fZ N7 t).ty) F w [.s,.b,.l 128,.i .i64,.s,.i .i64,.i .i64,.s,.l 157] cs (d.Name,d.Static,d.cF,d.Returns.Kind,d.Returns.aq,d.ia,d.h9,d.Code,d.cL,())at h;obtain⟨_,_,rfl,rfl,_,_,rfl,rfl,_,_,rfl,a,_,_,rfl,rfl,_,_,rfl,rfl,_,_,rfl,rfl,_,_,rfl,rfl,_,_,rfl,rfl,_,_,rfl,J,rfl⟩:=h;have a:(b7 (bs.ty 128)).rd F w [_] d.cF:=a;have J:(b7 (bs.ty 157)).rd F w [_] d.cL:=J;obtain⟨A,c,rfl⟩:=nb _ a;obtain⟨cu,b,rfl⟩:=nb _ J;exact⟨A,c,cu,b,rfl,jV (λ _ _=>avd) a,jV (λ _ _=>avc) J⟩
theorem ava{cs:List Value}{d:I.aq}(h:(bs.ty 134).rd F w cs d):I.k5.rd F w cs d:=by change fs (λ t=>(fZ N5 t).ty) F w [.s,.s,.l 136,.l 131] cs (d.Name,d.dc,d.Fields,d.bp,())at h;obtain⟨_,_,rfl,rfl,_,_,rfl,rfl,_,_,rfl,a,_,_,rfl,J,rfl⟩:=h;have a:(b7 (bs.ty 136)).rd F w [_] d.Fields:=a;have J:(b7 (bs.ty 131)).rd F w [_] d.bp:=J;obtain⟨A,c,rfl⟩:=nb _ a;obtain⟨cu,b,rfl⟩:=nb _ J;exact⟨A,c,cu,b,rfl,jV (λ _ _=>avb) a,jV (λ _ _=>ave) J⟩
theorem aez{cs:List Value}{d:Int}(h:(bs.ty 3).rd F w cs d):cs=[.int .i64 d]:=by change fs (λ t=>(fZ GA t).ty) F w [.i .i64] cs (d,())at h;obtain⟨_,_,rfl,rfl,rfl⟩:=h;rfl
theorem aIo{F':Nat->Prop}{cs:List Value}{d:I.Field}(h:I.jY.rd F w cs d):(bs.ty 136).rd F' w cs d:=by change cs=_ at h;subst h;change fs (λ t=>(fZ JK t).ty) F' w [.s,.i .i64,.s] _ (d.Name,d.Kind.Kind,d.Kind.aq,());exact⟨_,_,rfl,rfl,_,_,rfl,rfl,_,_,rfl,rfl,rfl⟩
theorem aIq{F':Nat->Prop}{cs:List Value}{d:I.Target}(h:I.k6.rd F w cs d):(bs.ty 166).rd F' w cs d:=by change cs=_ at h;subst h;change fs (λ t=>(fZ N8 t).ty) F' w [.i .i64,.i .i64] _ (d.aq,d.Method,());exact⟨_,_,rfl,rfl,_,_,rfl,rfl,rfl⟩
theorem aIp{F':Nat->Prop}{cs:List Value}{d:List UInt8}(h:jX.rd F w cs d):(bs.ty 9).rd F' w cs d:=by change cs=_ at h;subst h;change fs (λ t=>(fZ N9 t).ty) F' w [.s] _ (d,());exact⟨_,_,rfl,rfl,rfl⟩
theorem axv{es:List MapEntry}{d:List (List UInt8×Int)}(h: @ka bs F w 9 3 K2 es d):Tt nS (Value.int .i64) es d:=by
 induction es generalizing d with
 |nil=>cases d with
  |nil=>rfl
  |cons p d=>exact h.elim
 |cons e es a=>cases d with
  |nil=>exact h.elim
  |cons p d=>obtain⟨b,⟨xs,J,c⟩,f⟩:=h;have J:=aez J;subst J;have:=a f;unfold Tt at this⊢;rw[ez,ez,this];rw[show e.val= .int .i64 p.2 from c,show e.key=nS.enc p.1 from b]
abbrev AV(cs:List I.aq)(b4:List (List UInt8×Int))(jW:List Int):List (aH bs.El):=[.c 117 [.s 134 (cs:List (bs.El 134)),.m 1,.s 3 (jW:List (bs.El 3))],.m 9 3 (b4:List (bs.El 9×bs.El 3))]
theorem ajO{W:World}{M0:List Nat}{X:Nat->Prop}{ρ vs:List Value}{cs:List I.aq}{b4:List (List UInt8×Int)}{jW:List Int}{n:Int}
 (d:Mem bs W M0 X (AV cs b4 jW) ρ w)(m:a_ bs (bj X (AV cs b4 jW) ρ w) w ρ (AV cs b4 jW) [.b 0 0,.p (.int .i64 n)] vs) :
 ∃g A c r cu a,vs=[.pointer (some ⟨g,0,none⟩),.int .i64 n]/\bz w [] [] w [] [bG.jJ g [.slice A cs.length c,.map (some r),.slice cu jW.length a],cx I.k5 A c cs,bG.map nS (Value.int .i64) r b4,cx (fv .i64) cu a jW]:=by
 have H:=d.len
 obtain⟨J,o⟩:=d.tm (i:=0) rfl
 obtain⟨L,p⟩:=d.tm (i:=1) rfl
 have b0:=d.ok 0 _ _ rfl o
 have bO:=d.ok 1 _ _ rfl p
 obtain⟨g,us,rfl,q,s⟩:=b0
 obtain⟨r,rfl,K,D,es,cl,u,E,G,ag⟩:=bO
 simp only[a_,ax]at s m
 obtain⟨M,_,rfl,v,N,_,rfl,⟨O,x,rfl⟩,P,_,rfl,e,rfl⟩:=s
 obtain⟨_,_,rfl,⟨g',z,rfl⟩,_,_,rfl,rfl,rfl⟩:=m
 rw[o]at z
 rw[p]at x
 cases z
 cases x
 obtain⟨A,c,rfl⟩:=nb _ v
 obtain⟨cu,a,rfl⟩:=nb _ e
 have B:∀k,bj X (AV cs b4 jW) ρ w k->iK [] w k/\w.heap[k]? =w.heap[k]? :=λ k f=>⟨⟨by simp,f.2.2⟩,rfl⟩
 have j:(cx I.k5 A c cs).ok [] w:=jV (λ _ _=>ava) ((b7 (bs.ty 134)).law B v)
 have l:(cx (fv .i64) cu a jW).ok [] w:=jV (λ _ _=>aez) ((b7 (bs.ty 3)).law B e)
 have C:∀k b,w.heap[k]? =some b->k<w.heap.size:=λ k b f=>by rcases gI k w.heap.size with h |h;exact h;rw[h6 h]at f;cases f
 obtain rfl:K2=K:=eD D
 refine⟨g,A,c,r,cu,a,rfl,bz.start [] [] w [] _ (by simp) (by simp[b1]) (by simp) (by simp[b1]) λ y hy=>?_⟩
 simp only[cH,io,or_false]at hy
 rcases hy with rfl |rfl |rfl |rfl
 ·exact⟨by simp[b1],C _ _ q,lT (t:=117) (cs:=[.slice A cs.length c,.map (some r),.slice cu jW.length a]) q⟩
 ·exact j
 ·exact⟨by simp[b1],C _ _ u,es,cl,u,axv E,G,ag⟩
 ·exact l
end
theorem awl(F:Nat):(ai' F).ic.Cu aI 83:=by intro da db fa h W M0 X ρ w vs a d;obtain⟨⟨⟩,n,⟨⟩⟩:=da;obtain⟨⟨cs,⟨⟩,jW,⟨⟩⟩,b4,⟨⟩⟩:=db;have h:eh _ (I.vu F ⟨cs,b4,jW⟩ n)=some fa:=h;obtain⟨r,f,rfl⟩:=cA.1 h;have a:Mem bs W M0 X (AV cs b4 jW) ρ w:=a;obtain⟨g,A,c,q,cu,s,rfl,aj⟩:=ajO a d;refine⟨⟨.ret (.r 2 0),AV cs b4 jW++[.r 136 0 0 (r:List (bs.El 136))],[]⟩,by kernel_rfl,?_⟩;refine(avC aj f).mono λ e w' ⟨u,c1,xs,i,b⟩=>?_;obtain⟨j,l⟩:=a.st1 b (t:=136) rfl λ _ _ _ m _=>aIo m;refine⟨_,j,l,λ k o _=>b.bZ.block k o (by simp),?_⟩;subst i;have p:ρ.length=2:=a.len;exact⟨trivial,_,by rw[eS (by omega),p];rfl,cP _,λ _=>rfl⟩
theorem awm(F:Nat):(aja F).ic.Cu aI 82:=by intro da db fa h W M0 X ρ w vs a i;obtain⟨⟨⟩,n,⟨⟩⟩:=da;obtain⟨⟨cs,⟨⟩,jW,⟨⟩⟩,b4,⟨⟩⟩:=db;have h:eh _ (I.EA F ⟨cs,b4,jW⟩ n)=some fa:=h;obtain⟨r,j,rfl⟩:=cA.1 h;have a:Mem bs W M0 X (AV cs b4 jW) ρ w:=a;obtain⟨g,A,c,q,cu,s,rfl,aj⟩:=ajO a i;refine⟨⟨.ret (.u [.r 2 0,.r 3 0]),AV cs b4 jW++[.r 9 0 0 (r.1 :List (bs.El 9)),.r 166 0 0 (r.2 :List (bs.El 166))],[]⟩,by kernel_rfl,?_⟩;refine(avD aj j).mono λ e w' ⟨u,c1,xs,v,c2,ys,l,d⟩=>?_;obtain⟨m,o⟩:=a.st2 d (t:=9) (t':=166) rfl (λ _ _ _ b _=>aIp b) rfl λ _ _ _ b _=>aIq b;refine⟨_,m,o,λ k p _=>d.bZ.block k p (by simp),?_⟩;subst l;have f:ρ.length=2:=a.len;refine⟨_,rfl,_,_,rfl,⟨trivial,_,by rw[eS (by omega),f];rfl,cP _,λ _=>rfl⟩,_,_,rfl,⟨trivial,_,by rw[eS (by omega),f];rfl,cP _,λ _=>rfl⟩,rfl⟩
theorem au4:jB.Ok:=⟨⟨λ g h e=>(by cases e),λ g h e=>(by cases e)⟩,λ g fn c _ _ _=>vq (λ _=>rfl) c⟩
theorem avt(F:Nat):(M' F).Ok:=((aF8 kg (aF7 kg (aF6 kg (aF5 kg (aF4 kg au4))))).pT (f:=82) (by kernel_rfl) λ ys bl r a=>NR (awm F) ys bl r (Bu a)).pT (f:=83) (by kernel_rfl) λ ys bl r a=>NR (awl F) ys bl r (Bu a)
end Go.Proofs.YteeliipnilghaaaGreat
namespace ba
open Go Go.RowKit ay I
section
variable{El:Nat->Type}
def Ny(bl:List (aH El)):aL El->Option (aL El)
 | .p u=>some (.p u)
 | .s t l=>some (.s t l)
 | .q t l=>some (.s t l)
 | .r i g=>match nth bl i with
   |some (.r t a _ l)=>match cj g a with
    |true=>some (.s t l)
    |false=>none
   |_=>none
 |_=>none
def Ju(bl:List (aH El)):List (aL El)->Option (List (aL El))
 |[]=>some []
 |y::r=>match Ny bl y,Ju bl r with
  |some e3,some a=>some (e3::a)
  |_,_=>none
def T6(bl:List (aH El)):aL El->Option (aL El)
 | .a cs=>(Ju bl cs).map .a
 |y=>Ny bl y
def Jv(bl:List (aH El)):List (aL El)->Option (List (aL El))
 |[]=>some []
 |y::r=>match T6 bl y,Jv bl r with
  |some e3,some a=>some (e3::a)
  |_,_=>none
def aiX:List (aL El)->Bool
 |[]=>false
 | .r _ _::_=>true
 |_::r=>aiX r
def XV:List (aL El)->Bool
 |[]=>false
 | .r _ _::_=>true
 | .a cs::r=>aiX cs||XV r
 |_::r=>XV r
def T7(g:List (aL El)->List (aH El)->D (fE El))(ys:List (aL El))(bl:List (aH El)):D (fE El):=match XV ys,Jv bl ys with
 |true,some a=>(g a []).bind λ r=>match r.e with
  | .ret (.p u)=>.ok ⟨.ret (.p u),bl,[]⟩
  |_=>.no
 |_,_=>g ys bl
end
section
variable{T:bU}{W w:World}{M0:List Nat}{X:Nat->Prop}{bl:List (aH T.El)}{ρ:List Value}
theorem aew(f:Mem T W M0 X bl ρ w){y e3:aL T.El}{v:Value}(h:Ny bl y=some e3)(a:ax T (bj X bl ρ w) w ρ bl y v):ax T (bj (λ _=>False) ([]:List (aH T.El)) [] w) w [] [] e3 v:=by
 have c:∀ {b:List (aH T.El)}{k:Nat},bj X b ρ w k->bj (λ _=>False) ([]:List (aH T.El)) [] w k/\w.heap[k]? =w.heap[k]? :=λ j=>⟨⟨λ h=>h,λ⟨i,B,u,d,J,_⟩=>by simp at J,j.2.2⟩,rfl⟩
 unfold Ny at h;split at h;cases h;simp only[ax]at a⊢;exact a;cases h;simp only[ax]at a⊢;exact(b7 _).law (λ k=>c) a;cases h;simp only[ax]at a⊢;exact(b7 _).law (λ k=>c) a.1;rename_i i g;split at h;rename_i t m k l hi;rw[dj]at hi;split at h;rename_i ag;have ag:=bd ag;cases h;simp only[ax]at a⊢;obtain⟨_,u,d,_,e⟩:=a;rw[hi]at e;obtain rfl:=e ag;have n:=(f.freeze hi).1.ok i (.z t m k l) _ (gu (aR.1 hi).1) d;exact(b7 (T.ty t)).law (λ k=>c) (n:(b7 (T.ty t)).rd _ w [_] l);cases h;cases h;cases h
theorem aex(c:Mem T W M0 X bl ρ w):∀ {ys a:List (aL T.El)}{vs:List Value},Ju bl ys=some a->a_ T (bj X bl ρ w) w ρ bl ys vs->a_ T (bj (λ _=>False) ([]:List (aH T.El)) [] w) w [] [] a vs
 |[],a,vs,h,b=>by simp only[Ju,aF]at h;subst h;simpa only[a_]using b
 |y::r,a,vs,h,b=>by simp only[Ju]at h;split at h;rename_i i j d J;cases h;simp only[a_]at b⊢;obtain⟨u,us,e,f,g⟩:=b;exact⟨u,us,e,aew c d f,aex c J g⟩;cases h
theorem au'(b:Mem T W M0 X bl ρ w){y e3:aL T.El}{v:Value}(h:T6 bl y=some e3)(a:ax T (bj X bl ρ w) w ρ bl y v):ax T (bj (λ _=>False) ([]:List (aH T.El)) [] w) w [] [] e3 v:=by unfold T6 at h;split at h;rename_i cs;obtain⟨d,c,rfl⟩:=cA.1 h;simp only[ax]at a⊢;obtain⟨vs,e,a⟩:=a;exact⟨vs,e,aex b c a⟩;exact aew b h a
theorem aey(c:Mem T W M0 X bl ρ w):∀ {ys a:List (aL T.El)}{vs:List Value},Jv bl ys=some a->a_ T (bj X bl ρ w) w ρ bl ys vs->a_ T (bj (λ _=>False) ([]:List (aH T.El)) [] w) w [] [] a vs
 |[],a,vs,h,b=>by simp only[Jv,aF]at h;subst h;simpa only[a_]using b
 |y::r,a,vs,h,b=>by simp only[Jv]at h;split at h;rename_i i j d J;cases h;simp only[a_]at b⊢;obtain⟨u,us,e,f,g⟩:=b;exact⟨u,us,e,au' c d f,aey c J g⟩;cases h
end
section
variable{E:Env}{f:Nat}{t:cW E}
theorem avS(l:E.cY=[]){g:List (aL E.T.El)->List (aH E.T.El)->D (fE E.T.El)}(hc:kH E f g):kH E f (T7 g):=by
 intro ys bl r c W M0 X ρ w vs h d j;unfold T7 at c;split at c
 ·rename_i m _ ag;obtain⟨n,o,a⟩:=D.ks c;split at a
  ·rename_i u p;have a:(⟨.ret (.p u),bl,[]⟩:fE E.T.El)=r:=a;subst a;refine(hc m [] n o w [] (λ _=>False) [] w vs (aj1 w) (λ g y d=>by rw[l]at d;simp[cI]at d) (aey h ag j)).mono λ e w' ⟨ρ',i,_,_,b⟩=>?_;refine⟨ρ,h.fi i.bZ,Mem.tZ i.bZ,λ k q _=>i.bZ.block k q (by simp),?_⟩;rw[p]at b;cases e with
   |returned v=>simp only[Dd,ax]at b⊢;exact b
   |panicked zO=>exact b.elim
   |outgrown=>exact b.elim
  ·exact a.elim
 ·exact hc ys bl r c W M0 X ρ w vs h d j
def cW.sP(t:cW E)(f:Nat):cW E:=t.f f (T7 (t.bw f))
theorem cW.Ok.sP(a8:dl E)(a:E.cY=[])(h:t.Ok){f:Nat}(ad:fp E.cm f=true):(t.sP f).Ok:=h.pT ad (avS a λ ys bl r b=>((lV a8 h.ce h.le 100).ok f ys bl r b).2)
end
structure aS (E:Env) where
 t:cW E
 ok:dl E->t.Ok
 cY:E.cY=[]
section
variable{E:Env}
def aS.rt(s:aS E)(f:Nat)(c:iB E.T)(a:c.Eq E s.t.bw s.t.LE f)(ad:fp E.cm f=true:=by kernel_rfl):aS E:=⟨s.t.f f (c.run E),λ h=>(s.ok h).rt h s.cY ad a,s.cY⟩
def aS.w6(s:aS E)(f:Nat)(c:iB E.T)(a:c.Eq E s.t.bw s.t.LE f)(ad:fp E.cm f=true:=by kernel_rfl):aS E:=⟨s.t.w6 f c,λ h=>(s.ok h).ayw h s.cY ad a,s.cY⟩
def aS.Rb(s:aS E)(f:Nat)(c:sD E.T)(a:c.Eq E s.t.bw s.t.LE f)(ad:fp E.cm f=true:=by kernel_rfl):aS E:=⟨s.t.f f (c.run E),λ h=>(s.ok h).Rb h s.cY ad a,s.cY⟩
def aS.fn(s:aS E)(f:Nat)(c:eA E.T)(a:c.Eq E s.t.bw s.t.LE f)(ad:fp E.cm f=true:=by kernel_rfl):aS E:=⟨s.t.f f (c.run E),λ h=>(s.ok h).fn h s.cY ad a,s.cY⟩
def aS.jg(s:aS E)(f:Nat)(c:lc E.T)(a:c.Eq E s.t.bw s.t.LE f)(ad:fp E.cm f=true:=by kernel_rfl):aS E:=⟨s.t.f f (c.run E),λ h=>(s.ok h).jg h s.cY ad a,s.cY⟩
def aS.GF(s:aS E)(f:Nat)(c:eA E.T)(a:c.Eq E s.t.bw s.t.LE f)(ad:fp E.cm f=true:=by kernel_rfl):aS E:=⟨s.t.GF f c,λ h=>(s.ok h).ays h s.cY ad a,s.cY⟩
def aS.sP(s:aS E)(f:Nat)(ad:fp E.cm f=true:=by kernel_rfl):aS E:=⟨s.t.sP f,λ h=>(s.ok h).sP h s.cY ad,s.cY⟩
def aS.add(s:aS E)(f:Nat)(r:List (aL E.T.El)->List (aH E.T.El)->D (fE E.T.El))(hc:kH E f r)(ad:fp E.cm f=true:=by kernel_rfl):aS E:=⟨s.t.f f r,λ h=>(s.ok h).pT ad hc,s.cY⟩
def aS.akY(s:aS E)(g i:Nat)(r:eU E.T.El->D (ca E.T.El))(x y:Code)(ec:dl E->g∈E.cm->zl E ⟨fJ E.P g,[]⟩ r x y)(a:ET E.P g i=some (x,y):=by kernel_rfl):aS E:=⟨s.t.l g (1000000+i) r,λ h=>(s.ok h).au0 a (ec h),s.cY⟩
def aS.b2(s:aS E)(g i F:Nat)(c:bP E.T)(a:c.vp.oF E s.t.bw (s.t.LE g) (fJ E.P g) i (hT E.P g i))(b:ph E.P g i=true:=by kernel_rfl):aS E:=⟨s.t.l g i (c.run E F),λ h=>(s.ok h).b2 h s.cY b a F,s.cY⟩
def aS.Lf(s:aS E)(g i F:Nat)(c:bP E.T)(a:c.vp.oF E s.t.bw (s.t.LE g) (fJ E.P g) i (hT E.P g i))(b:ph E.P g i=true:=by kernel_rfl):aS E:=⟨s.t.Lf g i c F,λ h=>(s.ok h).aEH h s.cY b a F,s.cY⟩
def aS.gx(s:aS E)(g i F:Nat)(c:fO E.T)(a:c.Eq E s.t.bw (s.t.LE g) (fJ E.P g) i (hT E.P g i))(b:ph E.P g i=true:=by kernel_rfl):aS E:=⟨s.t.l g i (c.run E F),λ h=>(s.ok h).gx h s.cY b a F,s.cY⟩
def aS.PN(s:aS E)(g i F:Nat)(c:fO E.T)(a:c.Eq E s.t.bw (s.t.LE g) (fJ E.P g) i (hT E.P g i))(b:ph E.P g i=true:=by kernel_rfl):aS E:=⟨s.t.PN g i c F,λ h=>(s.ok h).aEG h s.cY b a F,s.cY⟩
end
end ba
