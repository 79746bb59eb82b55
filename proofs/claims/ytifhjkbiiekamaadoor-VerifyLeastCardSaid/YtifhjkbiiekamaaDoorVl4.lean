/- Part 4 of the proof that is ended in the last text: small logic, what the functions compute, walks, plain laws. -/
import Derived.Test.YtifhjkbiiekamaaDoorVl3
import Derived.Test.YtifhjkbiiekamaaDoorChecked
import Derived.KernelRfl
open Array renaming getElem?_eq_none->hI
open Bool renaming and_eq_true->bL,eq_false_iff->hA,false_eq_true->ie,not_eq_true'->gI
open List renaming append_nil->iW,cons.injEq->hN,flatMap_cons->iw,getElem?_append_right->eX,getElem?_eq_getElem->bu,getElem?_eq_some_iff->bb,length_reverse->jJ,map_cons->fA,mem_append_left->lz,mem_cons->dc,mem_cons_of_mem->fg,mem_flatMap->hn,mem_iff_getElem->je,nodup_append->ft,not_mem_nil->hx
open Nat renaming beq->bT,ble->hX,blt->eM,eq_of_beq_eq_true->aZ,le_of_ble_eq_true->bW,le_refl->da,le_trans->fo,lt_or_ge->gE,lt_succ_self->ky
open Option renaming bind->fs,map->fe,map_eq_some_iff->c9,some.inj->eR,some.injEq->aK
open Prod renaming mk.injEq->cY
noncomputable section
namespace a8
open Go Go.RowKit aA ad
inductive rE
 |nm
 |ex (id:Nat)
 |rt
structure iK where
 x:rE
 eJ:List Nat
 dQ:List cG
 cR:List bx
def FN:rE->rE->Bool
 | .nm,.nm=>true
 | .ex i,.ex j=>bT i j
 | .rt,.rt=>true
 |_,_=>false
theorem WK{x y:rE}(h:FN x y=true):x=y:=by
 cases x<;>cases y<;>simp only[FN,ie]at h<;>try rfl
 rw[aZ h]
def B4{El:Nat->Type}:rE->yS El
 | .nm=>.nm
 | .ex i=>.ex i
 | .rt=>.rt
@[reducible] def yi(El:Nat->Type)(w:iK):Type:=cQ El w.dQ×cg El w.cR
@[reducible] def rq(El:Nat->Type):List iK->Type
  |[]=>Empty
  |[w]=>yi El w
  |w::v::r=>yi El w⊕rq El (v::r)
structure g2 (T:bA) where
 eJ:List Nat
 a_:List cG
 pbs:List bx
 ws:List iK
 fn:Nat->cQ T.El a_×cg T.El pbs->Option (rq T.El ws)
def vE(E:Env)(ga:Nat)(x:rE)(bl:List (ay E.T.El))(f:b5 E.T.El):(ws:List iK)->Option (rq E.T.El ws)
 |[]=>none
 |[w]=>match FN w.x x with
  |true=>xE E ga bl f w.eJ w.dQ w.cR
  |false=>none
 |w::v::r=>match(match FN w.x x with
   |true=>xE E ga bl f w.eJ w.dQ w.cR
   |false=>none)with
  |some d=>some (.inl d)
  |none=>match vE E ga x bl f (v::r)with
   |some q=>some (.inr q)
   |none=>none
def EP(E:Env)(bl:List (ay E.T.El))(sel ws:List Nat)(w:iK)(d:yi E.T.El w):D (bS E.T.El):=.ok ⟨B4 w.x,⟨⟨ri w.eJ (fa (hC sel bl.length) (ez bl sel w.cR) w.dQ d.1),[],[]⟩,fk bl sel w.cR d.2,sel++ws⟩⟩
def xy(E:Env)(bl:List (ay E.T.El))(sel us:List Nat):(ws:List iK)->Option (rq E.T.El ws)->D (bS E.T.El)
 |[],_=>.no
 |[w],o=>.op o λ d=>EP E bl sel us w d
 |w::v::r,o=>.pa o (λ d=>EP E bl sel us w d) (λ q=>xy E bl sel us (v::r) (some q))
def xq(pbs:List bx):List iK->Bool
 |[]=>true
 |w::r=>h4 pbs w.cR&&nR pbs w.cR&&xq pbs r
def g2.run(E:Env)(F:Nat)(c:g2 E.T)(s:c1 E.T.El):D (bS E.T.El):=match lT E s.bl s.f [] (c.eJ.map .tmp)with
 |some ys=>match fZ [] c.a_ c.pbs s.bl ys with
  |(a,b)=>match xq c.pbs c.ws&&(h4 c.pbs c.pbs&&nR c.pbs c.pbs),gP a [] false c.a_ c.pbs b with
   |true,some (d,sel)=>xy E a sel s.ws c.ws (c.fn F d)
   |_,_=>.no
 |none=>.no
def Q4(id i:Nat):rE:=match bT i id with
 |true=>.nm
 |false=>.ex i
def g2.fin(E:Env)(c:g2 E.T)(id k:Nat)(t:bS E.T.El):Option (rq E.T.El c.ws):=match t.x with
 | .nm=>match xE E c.pbs.length t.s.bl t.s.f c.eJ c.a_ c.pbs with
   |some d=>c.fn k d
   |none=>none
 | .ex i=>vE E c.pbs.length (Q4 id i) t.s.bl t.s.f c.ws
 | .rt=>vE E c.pbs.length .rt t.s.bl t.s.f c.ws
 | .eI _=>none
def r3(E:Env)(c:g2 E.T)(aN:cQ E.T.El c.a_)(aO:cg E.T.El c.pbs):c1 E.T.El:=⟨⟨ri c.eJ (fa id (b7 false c.pbs) c.a_ aN),[],[]⟩,bw id (b7 false c.pbs) false c.pbs aO,[]⟩
structure g2.Eq (E:Env) (a0:dN E) (LE:jl E) (n id:Nat) (body:Code) (c:g2 E.T):Prop where
 zero:∀d,c.fn 0 d=none
 succ:∀k (aN:cQ E.T.El c.a_)(aO:cg E.T.El c.pbs),(den E a0 LE n body (r3 E c aN aO)).run (c.fin E id k)=c.fn (k+1) (aN,aO)
structure g2.l8 (E:Env) (a0:dN E) (LE:jl E) (n id:Nat) (body:Code) (c:g2 E.T):Prop where
 zero:∀d,c.fn 0 d=none
 succ:∀k (aN:cQ E.T.El c.a_)(aO:cg E.T.El c.pbs) r,c.fn (k+1) (aN,aO)=some r->(den E a0 LE n body (r3 E c aN aO)).run (c.fin E id k)=some r
theorem g2.Eq.one{E:Env}{a0:dN E}{LE:jl E}{n id:Nat}{body:Code}{c:g2 E.T}(h:c.Eq E a0 LE n id body):c.l8 E a0 LE n id body:=⟨h.zero,λ k aN aO _ a=>(h.succ k aN aO).trans a⟩
section
variable{E:Env}{a0:dN E}{LE:jl E}
theorem VT{ga:Nat}{x:rE}{bl:List (ay E.T.El)}{f:b5 E.T.El}:∀ {ws:List iK}{r:rq E.T.El ws},vE E ga x bl f ws=some r ->
 ∃(w:iK)(aN:cQ E.T.El w.dQ)(aO:cg E.T.El w.cR),w∈ws/\w.x=x/\xE E ga bl f w.eJ w.dQ w.cR=some (aN,aO)/\∀bl' sel us t,(xy E bl' sel us ws (some r)).out t->⟨B4 w.x,⟨⟨ri w.eJ (fa (hC sel bl'.length) (ez bl' sel w.cR) w.dQ aN),[],[]⟩,fk bl' sel w.cR aO,sel++us⟩⟩=t
 |[],r,h=>by cases h
 |[w],r,h=>by simp only[vE]at h;split at h;rename_i c;refine⟨w,r.1,r.2,by simp,WK c,h,λ bl' sel us t b=>?_⟩;obtain⟨d,a,al⟩:=b;simp only[aK]at a;subst a;exact al;cases h
 |w::v::ws,r,h=>by simp only[vE]at h;split at h;rename_i d aE;simp only[aK]at h;subst h;split at aE;rename_i c;refine⟨w,d.1,d.2,by simp,WK c,aE,λ bl' sel us t b=>?_⟩;rcases b with⟨d',a,al⟩|⟨d',a,al⟩;simp only[aK,Sum.inl.injEq]at a;subst a;exact al;simp at a;cases aE;split at h;rename_i q e;simp only[aK]at h;subst h;obtain⟨w',aN,aO,I,J,g,i⟩:=VT e;refine⟨w',aN,aO,fg _ I,J,g,λ bl' sel us t b=>?_⟩;rcases b with⟨d',a,al⟩|⟨d',a,al⟩;simp at a;simp only[aK,Sum.inr.injEq]at a;subst a;exact i bl' sel us t al;cases h
theorem aix{bl:List (ay E.T.El)}{sel us:List Nat}:∀ {ws:List iK}{o:Option (rq E.T.El ws)}{t:bS E.T.El},(xy E bl sel us ws o).out t->∃r,o=some r/\(xy E bl sel us ws (some r)).out t
 |[],o,t,h=>h.elim
 |[w],o,t,h=>by obtain⟨d,a,al⟩:=h;exact⟨d,a,d,rfl,al⟩
 |w::v::r,o,t,h=>by rcases h with⟨d,a,al⟩|⟨d,a,al⟩;exact⟨_,a,.inl ⟨d,rfl,al⟩⟩;exact⟨_,a,.inr ⟨d,rfl,al⟩⟩
theorem Lm{pbs:List bx}:∀ {ws:List iK}{w:iK},xq pbs ws=true->w∈ws->h4 pbs w.cR=true/\nR pbs w.cR=true
 |[],w,_,h=>by simp at h
 |v::r,w,h,hm=>by simp only[xq,bL]at h;rcases dc.1 hm with rfl |hm;exact h.1;exact Lm h.2 hm
theorem ag0(aP:cv E)(aG:gA E a0)(eo:ik E){n:b'}{O:Nat}{body:Code}(au:hJ E LE n body){c:g2 E.T}(he:c.l8 E a0 LE n.n O body)(F:Nat):vX E n (c.run E F) (.block O (.loop body)):=by
 intro s t o W ar X b0 ρ0 w0 ρ a w Q h k;unfold g2.run at o;split at o
 ·rename_i ys z9;cases kM:fZ [] c.a_ c.pbs s.bl ys with
  |mk bl cx=>
  rw[kM]at o;simp only at o;obtain⟨f,T,P,ai⟩:=ug h.r.mem kM (xp h.r (cur:=[]) trivial z9);split at o
  ·rename_i d sel Sq e7;simp only[bL]at Sq;obtain⟨j8,RT,U⟩:=Sq;obtain⟨aN,aO⟩:=d;obtain⟨h3,z4,J⟩:=aix o;obtain⟨L,_,lA⟩:=rX T tV e7;obtain⟨pW,q⟩:=wL tV e7;obtain⟨fl,bJ⟩:=lA (aW (io X bl f sel) (bw id (b7 false c.pbs) false c.pbs aO) (gd f sel) w) λ k q=>L.s4 q;have j6:=L.enter T bJ;have z6:=fl _ ai;have r:(gd f sel).length=c.pbs.length:=by rw[L.len,lV]
   have leave:∀(b:iK),b∈c.ws->∀(A:cQ E.T.El b.dQ)(C:cg E.T.El b.cR)(g:List Value)(a':Act)(w':World),a'.tmps.size=n.n->a'.defers=n.ds ->
    Told E w (gD (bw id (b7 false c.pbs) false c.pbs aO) (gd f sel)) (io X bl f sel) b.eJ b.dQ b.cR A C g a' w' true ->
    To (io X bl f sel) (bw id (b7 false c.pbs) false c.pbs aO) (bw id (b7 true b.cR) true b.cR C) (gd f sel) g w w' ->
    t=⟨B4 b.x,⟨⟨ri b.eJ (fa (hC sel bl.length) (ez bl sel b.cR) b.dQ A),[],[]⟩,fk bl sel b.cR C,sel++s.ws⟩⟩ ->
    l9 E X t.s.bl (e9 f sel g) Q a' w' (B4 b.x):=λ b V A C g a' w' Y Z G M aF=>by
    obtain⟨N,f_⟩:=Lm j8 V
    obtain⟨bp,dG,fV,gj⟩:=back (gq:=b7 true b.cR) T L pW (λ j i B p h h' rZ=>by obtain⟨B',S,al,_⟩:=q j i p h rZ;rw[h']at S;cases S;exact Kc N rZ al) N (λ i hi=>by obtain⟨j,aB,rfl⟩:=je.1 hi;obtain⟨B,S,_⟩:=q j _ _ (bu aB) (bu (by omega:j<c.pbs.length));exact(bb.1 S).1) (λ j=>rfl) G.1 M
    have DN:=gj b.dQ A _ G.2
    have w5:ew s.bl ρ w w' sel:=by have:=ew.nil.b2 P fV;rwa [iW]at this
    have:=k (e9 f sel g) a' w' (by subst aF;exact⟨⟨bp,⟨⟨Y,Z,λ t y hy=>NQ DN hy⟩,λ p v=>by simp at v,λ p v=>by simp at v⟩,il.to (il.to h.r.dW P) dG⟩,h.to.trans (P.trans dG),h.wr.b2 h.to w5⟩)
    rw[aF]at this⊢
    exact this
   refine wp_block (wp_loop_ghost (λ m a' w'=>∃(H:cQ E.T.El c.a_)(z:cg E.T.El c.pbs)(ρ':List Value),a'.tmps.size=n.n/\a'.defers=n.ds/\Told E w (gD (bw id (b7 false c.pbs) false c.pbs aO) (gd f sel)) (io X bl f sel) c.eJ c.a_ c.pbs H z ρ' a' w' false/\
    To (io X bl f sel) (bw id (b7 false c.pbs) false c.pbs aO) (bw id (b7 true c.pbs) true c.pbs z) (gd f sel) ρ' w w'/\c.fn m (H,z)=some h3) F ⟨aN,aO,gd f sel,h.r.cV.dO.size,h.r.cV.dO.defers,⟨j6,z6⟩,akM,z4⟩ λ m a' w' jy=>?_)
   obtain⟨H,z,ρ',Y,Z,G,M,eT⟩:=jy;cases m with
   |zero=>rw[he.zero]at eT;cases eT
   |succ m=>
    obtain⟨t1,hb,l⟩:=D.qZ (he.succ _ _ _ _ eT);have DC:ρ'.length=c.pbs.length:=by rw[G.1.len,lV]
    have dg:R E w (gD (bw id (b7 false c.pbs) false c.pbs aO) (gd f sel)) (io X bl f sel) n (r3 E c H z).f (r3 E c H z).bl ρ' a' w':=⟨G.1,⟨⟨Y,Z,λ t y hy=>NQ G.2 hy⟩,λ p v=>by simp[r3]at v,λ p v=>by simp[r3]at v⟩,il.enter eo (il.to (il.enter eo (il.to h.r.dW P) λ k q=>L.s4 q) M) λ k q=>Mt q⟩
    refine iS (b0:=(r3 E c H z).bl) (ρ0:=ρ') (w0:=w') aP aG body au hb ⟨dg,.refl,.nil⟩ λ tD Gt vD u=>?_;have out:∀x,vE E c.pbs.length x t1.s.bl t1.s.f c.ws=some h3->∃(b:iK)(g:List Value),l9 E X t.s.bl (e9 f sel g) Q Gt vD (B4 b.x)/\b.x=x:=λ x K=>by obtain⟨b,A,C,a7,br,bG,eV⟩:=VT K;obtain⟨N,f_⟩:=Lm j8 a7;obtain⟨g,c',fP⟩:=UQ u.r DC N u.to bG;have J:=eV _ _ _ _ J;exact⟨b,g,leave b a7 A C g Gt vD u.r.cV.dO.size u.r.cV.dO.defers (c' true) (Vq N f_ r M fP) J.symm,br⟩
    unfold g2.fin at l;cases K:t1.x with
    |nm=>rw[K]at l;simp only at l;split at l;rename_i rO I5;obtain⟨g,c',fP⟩:=UQ u.r DC RT u.to I5;exact⟨m,ky m,rO.1,rO.2,g,u.r.cV.dO.size,u.r.cV.dO.defers,c' false,Vq RT U r M fP,l⟩;cases l
    |ex i=>
     rw[K]at l;obtain⟨b,g,I,J⟩:=out _ l;show Exit.inBlock O Q (.exit i) Gt vD
     unfold Q4 at J;split at J;rename_i ag;rw[aZ ag];simp only[Exit.inBlock,if_true];rw[J]at I;exact I
     ·rename_i ag;have bE:i≠O:=λ e=>by subst e;simp at ag
      simp only[Exit.inBlock,lW bE];rw[J]at I;exact I
    |rt=>rw[K]at l;obtain⟨b,g,I,J⟩:=out _ l;rw[J]at I;exact I
    |eI y=>rw[K]at l;cases l
  ·exact o.elim
 ·exact o.elim
end
def fY(i:Nat):Code->Option Code
 | .seq x y=>match fY i x with
   |some b=>some b
   |none=>fY i y
 | .cond _ x y=>match fY i x with
   |some b=>some b
   |none=>fY i y
 | .block id c=>match bT id i with
   |true=>match c with
    | .loop b=>some b
    |_=>none
   |false=>fY i c
 | .loop c=>fY i c
 | .scope c=>fY i c
 |_=>none
def gM(i:Nat):Code->Nat
 | .seq x y=>gM i x+gM i y
 | .cond _ x y=>gM i x+gM i y
 | .block id c=>match bT id i with
   |true=>gM i c+1
   |false=>gM i c
 | .loop c=>gM i c
 | .scope c=>gM i c
 |_=>0
def od(E:Env)(i:Nat)(g:c1 E.T.El->D (bS E.T.El))(n:b'):Code->Prop
 | .seq x y=>od E i g n x/\od E i g n y
 | .cond _ x y=>od E i g n x/\od E i g n y
 | .block id c=>(id=i->vX E n g (.block id c))/\od E i g n c
 | .loop c=>od E i g n c
 | .scope c=>od E i g n c
 |_=>True
section
variable{E:Env}{LE:jl E}{n:b'}{i:Nat}{g:c1 E.T.El->D (bS E.T.El)}
theorem mK:∀ {c:Code},gM i c=0 ->od E i g n c
 | .seq x y,h=>by simp only[gM]at h;exact⟨mK (by omega),mK (by omega)⟩
 | .cond _ x y,h=>by simp only[gM]at h;exact⟨mK (by omega),mK (by omega)⟩
 | .block id c,h=>by simp only[gM]at h;split at h;omega;rename_i ag;exact⟨λ e=>by subst e;simp at ag,mK h⟩
 | .loop c,h=>mK (c:=c) h
 | .scope c,h=>mK (c:=c) h
 | .skip,_ | .region _ _ _,_ | .rangeFunc _ _ _ _,_ | .exit _,_ | .label _,_ | .goto _,_ | .ret,_ | .refuse _,_=>trivial
theorem np:∀ {c b:Code},fY i c=some b->0<gM i c
 | .seq x y,b,h=>by simp only[fY]at h;simp only[gM];split at h;rename_i I;have:=np I;omega;have:=np h;omega
 | .cond _ x y,b,h=>by simp only[fY]at h;simp only[gM];split at h;rename_i I;have:=np I;omega;have:=np h;omega
 | .block id c,b,h=>by simp only[fY]at h;simp only[gM];split at h;omega;exact np h
 | .loop c,b,h=>by simp only[gM];exact np (c:=c) h
 | .scope c,b,h=>by simp only[gM];exact np (c:=c) h
 | .skip,_,h | .region _ _ _,_,h | .rangeFunc _ _ _ _,_,h | .exit _,_,h | .label _,_,h | .goto _,_,h | .ret,_,h | .refuse _,_,h=>by simp[fY]at h
theorem sj{b:Code}(d:vX E n g (.block i (.loop b))):∀ {c:Code},gM i c<=1 ->fY i c=some b->od E i g n c
 | .seq x y,h,a=>by simp only[gM]at h;simp only[fY]at a;split at a;rename_i I;have:=np I;simp only[aK]at a;subst a;exact⟨sj d (by omega) I,mK (by omega)⟩;have:=np a;exact⟨mK (by omega),sj d (by omega) a⟩
 | .cond _ x y,h,a=>by simp only[gM]at h;simp only[fY]at a;split at a;rename_i I;have:=np I;simp only[aK]at a;subst a;exact⟨sj d (by omega) I,mK (by omega)⟩;have:=np a;exact⟨mK (by omega),sj d (by omega) a⟩
 | .block id c,h,a=>by simp only[gM]at h;simp only[fY]at a;split at a;rename_i ag;rw[ag]at h;have e:=aZ ag;subst e;split at a;simp only[aK]at a;subst a;exact⟨λ _=>d,mK (by simp only at h;omega)⟩;cases a;rename_i ag;rw[ag]at h;exact⟨λ e=>by subst e;simp at ag,sj d h a⟩
 | .loop c,h,a=>sj (c:=c) d h a
 | .scope c,h,a=>sj (c:=c) d h a
 | .skip,_,h | .region _ _ _,_,h | .rangeFunc _ _ _ _,_,h | .exit _,_,h | .label _,_,h | .goto _,_,h | .ret,_,h | .refuse _,_,h=>by simp[fY]at h
theorem sg{f:jl E}(hi:i<1000000)(a:∀j h,f j=some h->(j=i/\h=g)\/LE j=some h):∀ {c:Code},hJ E LE n c->od E i g n c->hJ E f n c
 | .seq x y,h,h'=>⟨(λ q r d b e=>by
   unfold AR at b;split at b;rename_i id _;rcases a _ q b with⟨k,_⟩|al;omega;exact h.1 q r d al e
   ·cases b),sg hi a h.2.1 h'.1,sg hi a h.2.2 h'.2⟩
 | .cond _ x y,h,h'=>⟨sg hi a h.1 h'.1,sg hi a h.2 h'.2⟩
 | .block id c,h,h'=>⟨λ q b=>by
   rcases a id q b with⟨k,al⟩|e;rw[al];exact h'.1 k
   ·exact h.1 q e,sg hi a h.2 h'.2⟩
 | .loop c,h,h'=>sg (c:=c) hi a h h'
 | .scope c,h,h'=>sg (c:=c) hi a h h'
 | .skip,_,_ | .region _ _ _,_,_ | .rangeFunc _ _ _ _,_,_ | .exit _,_,_ | .label _,_,_ | .goto _,_,_ | .ret,_,_ | .refuse _,_,_=>trivial
def hv:Code->List (Nat×Code×Code)
 | .seq x y=>(match x,y with
   | .seq (.region a b c) (.block id d),.seq r _=>[(id,.seq (.region a b c) (.block id d),r)]
   |_,_=>[])++hv x++hv y
 | .cond _ x y=>hv x++hv y
 | .block _ c=>hv c
 | .loop c=>hv c
 | .scope c=>hv c
 |_=>[]
def lD:Code->Bool
 | .seq x y=>lD x&&lD y
 | .cond _ x y=>lD x&&lD y
 | .block id c=>eM id 1000000&&lD c
 | .loop c=>lD c
 | .scope c=>lD c
 |_=>true
theorem sh{s:jl E}(m:∀j h,s j=some h->(j=1000000+i/\h=g)\/LE j=some h):∀ {c:Code},(∀x r,(i,x,r)∈hv c->Cq E n g x r)->lD c=true->hJ E LE n c->hJ E s n c
 | .seq x y,l,ag,h=>by
   simp only[lD,bL]at ag;refine⟨λ q r p o e=>?_,sh m (λ e2 f k=>l e2 f (by simp only[hv];simp[k])) ag.1 h.2.1,sh m (λ e2 f k=>l e2 f (by simp only[hv];simp[k])) ag.2 h.2.2⟩;unfold AR at o;split at o
   ·rename_i a b c id d;rcases m _ q o with⟨t,al⟩|al
    ·have:id=i:=by omega
     subst this;subst e;rw[al];exact l _ _ (by simp only[hv];simp)
    ·exact h.1 q r p al e
   ·cases o
 | .cond _ x y,l,ag,h=>by simp only[lD,bL]at ag;exact⟨sh m (λ e2 f k=>l e2 f (by simp only[hv];simp[k])) ag.1 h.1,sh m (λ e2 f k=>l e2 f (by simp only[hv];simp[k])) ag.2 h.2⟩
 | .block id c,l,ag,h=>by simp only[lD,bL]at ag;refine⟨λ q o=>?_,sh m (λ e2 f k=>l e2 f (by simpa only[hv]using k)) ag.2 h.2⟩;rcases m id q o with⟨t,_⟩|e;have:=bW ag.1;omega;exact h.1 q e
 | .loop c,l,ag,h=>sh (c:=c) m (λ e2 f k=>l e2 f (by simpa only[hv]using k)) ag h
 | .scope c,l,ag,h=>sh (c:=c) m (λ e2 f k=>l e2 f (by simpa only[hv]using k)) ag h
 | .skip,_,_,_ | .region _ _ _,_,_,_ | .rangeFunc _ _ _ _,_,_,_ | .exit _,_,_,_ | .label _,_,_,_ | .goto _,_,_,_ | .ret,_,_,_ | .refuse _,_,_,_=>trivial
theorem si:∀ {c b:Code},hJ E LE n c->fY i c=some b->hJ E LE n b
 | .seq x y,b,h,a=>by simp only[fY]at a;split at a;rename_i I;simp only[aK]at a;subst a;exact si h.2.1 I;exact si h.2.2 a
 | .cond _ x y,b,h,a=>by simp only[fY]at a;split at a;rename_i I;simp only[aK]at a;subst a;exact si h.1 I;exact si h.2 a
 | .block id c,b,h,a=>by simp only[fY]at a;split at a;split at a;simp only[aK]at a;subst a;exact h.2;cases a;exact si h.2 a
 | .loop c,b,h,a=>si (c:=c) h a
 | .scope c,b,h,a=>si (c:=c) h a
 | .skip,_,_,h | .region _ _ _,_,_,h | .rangeFunc _ _ _ _,_,_,h | .exit _,_,_,h | .label _,_,_,h | .goto _,_,_,h | .ret,_,_,h | .refuse _,_,_,h=>by simp[fY]at h
end
structure dz (E:Env) where
 ce:List (Nat×(List (aD E.T.El)->List (ay E.T.El)->D (eO E.T.El)))
 le:List (Nat×Nat×(c1 E.T.El->D (bS E.T.El)))
def D9{E:Env}:List (Nat×Nat×(c1 E.T.El->D (bS E.T.El)))->h7 E
 |[],_,_=>none
 |p::r,g,i=>match bT p.1 g&&bT p.2.1 i with
  |true=>some p.2.2
  |false=>D9 r g i
def KC{E:Env}:List (Nat×(List (aD E.T.El)->List (ay E.T.El)->D (eO E.T.El)))->vR E
 |[],_=>none
 |p::r,g=>match bT p.1 g with
  |true=>some p.2
  |false=>KC r g
def dz.iH{E:Env}(t:dz E):vR E:=KC t.ce
def dz.LE{E:Env}(t:dz E):h7 E:=D9 t.le
def dz.a0{E:Env}(t:dz E):dN E:=ui E t.iH t.LE 100
def dz.f{E:Env}(t:dz E)(g:Nat)(h:List (aD E.T.El)->List (ay E.T.El)->D (eO E.T.El)):dz E:=⟨(g,h)::t.ce,t.le⟩
def dz.l{E:Env}(t:dz E)(g i:Nat)(h:c1 E.T.El->D (bS E.T.El)):dz E:=⟨t.ce,(g,i,h)::t.le⟩
structure dz.dF {E:Env} (t:dz E):Prop where
 ce:Ch E t.iH
 le:og E t.LE
def eN.fit(E:Env)(c:eN E.T)(ys:List (aD E.T.El))(bl:List (ay E.T.El)):Bool:=match fZ [] c.a_ c.pbs bl ys with
 |(a,b)=>match gP a [] false c.a_ c.pbs b with
  |some _=>true
  |none=>false
def g2.fit(E:Env)(c:g2 E.T)(s:c1 E.T.El):Bool:=match lT E s.bl s.f [] (c.eJ.map .tmp)with
 |some ys=>match fZ [] c.a_ c.pbs s.bl ys with
  |(a,b)=>match gP a [] false c.a_ c.pbs b with
   |some _=>true
   |none=>false
 |none=>false
def ll(P:Program)(g:Nat):Code:=match P.funcs[g]? with
 |some fn=>match fn.body with
  |some c=>c
  |none=>.skip
 |none=>.skip
def oo(P:Program)(g i:Nat):Code:=match fY i (ll P g)with
 |some b=>b
 |none=>.skip
def kh(P:Program)(g:Nat):Nat:=match P.funcs[g]? with
 |some fn=>fn.ntmps
 |none=>0
def sV(P:Program)(g i:Nat):Bool:=match fY i (ll P g)with
 |some _=>hX (gM i (ll P g)) 1&&eM i 1000000
 |none=>false
section
variable{E:Env}{t:dz E}
theorem dz.dF.oj(h:t.dF){f:Nat}{r:List (aD E.T.El)->List (ay E.T.El)->D (eO E.T.El)}(b:ev E.bU f=true)(hc:iI E f r):(t.f f r).dF:=by
 have key:∀g q,(t.f f r).iH g=some q->(g=f/\q=r)\/t.iH g=some q:=λ g q a=>by simp only[dz.iH,dz.f,KC]at a;split at a;rename_i ag;simp only[aK]at a;exact .inl ⟨(aZ ag).symm,a.symm⟩;exact .inr a
 refine⟨⟨λ g q a=>?_,λ g q a=>?_⟩,h.le⟩;rcases key g q a with⟨rfl,_⟩|e;exact lE b;exact h.ce.bU g q e;rcases key g q a with⟨rfl,rfl⟩|e;exact hc;exact h.ce.ok g q e
theorem dz.dF.fn(a:cv E)(b:ik E)(h:t.dF){f:Nat}(d:ev E.bU f=true){c:eN E.T}(e:c.Eq E t.a0 t.LE f):(t.f f (c.run E)).dF:=h.oj d (Pt a (kF a h.ce h.le 100) h.le b e)
theorem dz.dF.Ot(s:cv E)(h:t.dF){g i:Nat}(I:sV E.P g i=true){r:c1 E.T.El->D (bS E.T.El)}(a:g∈E.bU->vX E ⟨kh E.P g,[]⟩ r (.block i (.loop (oo E.P g i)))):(t.l g i r).dF:=by
 refine⟨h.ce,λ g' fn k l f m=>?_⟩;have c:=h.le g' fn k l f m;by_cases e:g'=g
 ·subst e;have o:ll E.P g'=k:=by unfold ll;rw[f];simp only;rw[m]
  have p:kh E.P g'=fn.ntmps:=by unfold kh;rw[f]
  have a:=a l;unfold sV at I;unfold oo at a;rw[o]at I a;rw[p]at a;split at I;rename_i b ag;rw[ag]at a;simp only at a;simp only[bL]at I;refine sg (i:=i) (bW I.2) (λ j q d=>?_) c (sj a (bW I.1) ag);simp only[dz.LE,dz.l,D9]at d;split at d;rename_i n;simp only[bL]at n;simp only[aK]at d;exact .inl ⟨(aZ n.2).symm,d.symm⟩;exact .inr d;cases I
 ·have same:∀j,(t.l g i r).LE g' j=t.LE g' j:=λ j=>by
   simp only[dz.LE,dz.l,D9];have:bT g g'=false:=by rw[hA];intro ag;exact e (aZ ag).symm
   rw[this];rfl
  have:(t.l g i r).LE g'=t.LE g':=funext same;rw[this];exact c
theorem dz.dF.RI(f:cv E)(k:ik E)(h:t.dF){g i:Nat}(I:sV E.P g i=true){c:g2 E.T}(d:c.l8 E t.a0 (t.LE g) (kh E.P g) i (oo E.P g i))(F:Nat):g∈E.bU->vX E ⟨kh E.P g,[]⟩ (c.run E F) (.block i (.loop (oo E.P g i))):=λ l=>by
 unfold sV at I;split at I
 ·rename_i b ag;have e:oo E.P g i=b:=by unfold oo;rw[ag]
  rw[e]at d⊢;unfold ll at ag;split at ag
  ·rename_i fn j;split at ag
   ·rename_i m o;have a:=h.le g fn m l j o;have p:kh E.P g=fn.ntmps:=by unfold kh;rw[j]
    rw[p]at d⊢;exact ag0 (n:=⟨fn.ntmps,[]⟩) f (kF f h.ce h.le 100) k (si a ag) d F
   ·simp[fY]at ag
  ·simp[fY]at ag
 ·cases I
theorem dz.dF.KH(a:cv E)(b:ik E)(h:t.dF){g i:Nat}(I:sV E.P g i=true){c:g2 E.T}(d:c.Eq E t.a0 (t.LE g) (kh E.P g) i (oo E.P g i))(F:Nat):(t.l g i (c.run E F)).dF:=h.Ot a I (h.RI a b I d.one F)
theorem dz.dF.iR(a:cv E)(b:ik E)(h:t.dF){f:Nat}(d:ev E.bU f=true){c:jm E.T}(e:c.Eq E t.a0 t.LE f):(t.f f (c.run E)).dF:=h.oj d (ZE a (kF a h.ce h.le 100) h.le b e.one)
end
structure g5 (T:bA) where
 a_:List cG
 pbs:List bx
 dQ:List cG
 cR:List bx
 R:Type
 fn:cQ T.El a_×cg T.El pbs->Option R
 kx:cQ T.El a_×cg T.El pbs->R->cQ T.El dQ×cg T.El cR
def g5.gC{T:bA}(c:g5 T):eN T:=⟨c.a_,c.pbs,c.dQ,c.cR,λ d=>(c.fn d).map (c.kx d)⟩
def g5.run(E:Env)(c:g5 E.T)(ys:List (aD E.T.El))(bl:List (ay E.T.El)):D (eO E.T.El):=match fZ [] c.a_ c.pbs bl ys with
 |(a,b)=>match h4 c.pbs c.cR,gP a [] false c.a_ c.pbs b with
  |true,some (d,sel)=>.op (c.fn d) λ r=>.ok ⟨.ret (jM (fa (hC sel a.length) (ez a sel c.cR) c.dQ (c.kx d r).1)),fk a sel c.cR (c.kx d r).2,sel⟩
  |_,_=>.no
def g5.ZD{T:bA}(c:g5 T)(d:cQ T.El c.a_×cg T.El c.pbs)(r:c.R):cQ T.El c.dQ×cg T.El c.cR:=c.kx d r
def g5.Eq(E:Env)(a0:dN E)(LE:h7 E)(f:Nat)(c:g5 E.T):Prop:=∀(aN:cQ E.T.El c.a_)(aO:cg E.T.El c.pbs),(kE E a0 LE f (fa id (b7 false c.pbs) c.a_ aN) (bw id (b7 false c.pbs) false c.pbs aO)).run c.gC.fin=(c.fn (aN,aO)).map (c.ZD (aN,aO))
structure fj (T:bA) (a_:List cG) (pbs:List bx) where
 w:iK
 R:Type
 kx:cQ T.El a_×cg T.El pbs->R->yi T.El w
@[reducible] def yo{T:bA}{a_:List cG}{pbs:List bx}:List (fj T a_ pbs)->Type
  |[]=>Empty
  |[w]=>w.R
  |w::v::r=>w.R⊕yo (v::r)
@[reducible] def xX{T:bA}{a_:List cG}{pbs:List bx}:List (fj T a_ pbs)->List iK
  |[]=>[]
  |w::r=>w.w::xX r
def dB{T:bA}{a_:List cG}{pbs:List bx}(d:cQ T.El a_×cg T.El pbs):(ws:List (fj T a_ pbs))->yo ws->rq T.El (xX ws)
 |[],r=>r.elim
 |[w],r=>w.kx d r
 |w::v::ws,r=>match r with
  | .inl a=>.inl (w.kx d a)
  | .inr b=>.inr (dB d (v::ws) b)
structure c0 (T:bA) where
 eJ:List Nat
 a_:List cG
 pbs:List bx
 ws:List (fj T a_ pbs)
 fn:Nat->cQ T.El a_×cg T.El pbs->Option (yo ws)
def c0.u0{T:bA}(c:c0 T):g2 T:=⟨c.eJ,c.a_,c.pbs,xX c.ws,λ k d=>(c.fn k d).map λ r=>dB d c.ws r⟩
def LD(E:Env){a_:List cG}{pbs:List bx}(bl:List (ay E.T.El))(sel us:List Nat)(d:cQ E.T.El a_×cg E.T.El pbs):(ws:List (fj E.T a_ pbs))->Option (yo ws)->D (bS E.T.El)
 |[],_=>.no
 |[w],o=>.op o λ r=>EP E bl sel us w.w (w.kx d r)
 |w::v::ws,o=>.pa o (λ r=>EP E bl sel us w.w (w.kx d r)) (λ q=>LD E bl sel us d (v::ws) (some q))
def c0.run(E:Env)(F:Nat)(c:c0 E.T)(s:c1 E.T.El):D (bS E.T.El):=match lT E s.bl s.f [] (c.eJ.map .tmp)with
 |some ys=>match fZ [] c.a_ c.pbs s.bl ys with
  |(a,b)=>match xq c.pbs (xX c.ws)&&(h4 c.pbs c.pbs&&nR c.pbs c.pbs),gP a [] false c.a_ c.pbs b with
   |true,some (d,sel)=>LD E a sel s.ws d c.ws (c.fn F d)
   |_,_=>.no
 |none=>.no
def dz.zc{E:Env}(t:dz E)(g:Nat)(c:g5 E.T):dz E:=t.f g λ ys bl=>match c.gC.fit E ys bl with
 |true=>c.run E ys bl
 |false=>t.a0 g ys bl
structure yR (T:bA) (a_:List cG) (pbs:List bx) where
 w:jU
 R:Type
 kx:cQ T.El a_×cg T.El pbs->R->vU T.El w
@[reducible] def Cr{T:bA}{a_:List cG}{pbs:List bx}:List (yR T a_ pbs)->Type
  |[]=>Empty
  |[w]=>w.R
  |w::v::r=>w.R⊕Cr (v::r)
@[reducible] def E'{T:bA}{a_:List cG}{pbs:List bx}:List (yR T a_ pbs)->List jU
  |[]=>[]
  |w::r=>w.w::E' r
def GX{T:bA}{a_:List cG}{pbs:List bx}(d:cQ T.El a_×cg T.El pbs):(ws:List (yR T a_ pbs))->Cr ws->rp T.El (E' ws)
 |[],r=>r.elim
 |[w],r=>w.kx d r
 |w::v::ws,r=>match r with
  | .inl a=>.inl (w.kx d a)
  | .inr b=>.inr (GX d (v::ws) b)
structure v_ (T:bA) where
 a_:List cG
 pbs:List bx
 ws:List (yR T a_ pbs)
 fn:cQ T.El a_×cg T.El pbs->Option (Cr ws)
def v_.iR{T:bA}(c:v_ T):jm T:=⟨c.a_,c.pbs,E' c.ws,λ d=>(c.fn d).map λ r=>GX d c.ws r⟩
def UX(E:Env){a_:List cG}{pbs:List bx}(bl:List (ay E.T.El))(sel:List Nat)(d:cQ E.T.El a_×cg E.T.El pbs):(ws:List (yR E.T a_ pbs))->Option (Cr ws)->D (eO E.T.El)
 |[],_=>.no
 |[w],o=>.op o λ r=>A9 E bl sel w.w (w.kx d r)
 |w::v::ws,o=>.pa o (λ r=>A9 E bl sel w.w (w.kx d r)) (λ q=>UX E bl sel d (v::ws) (some q))
def v_.run(E:Env)(c:v_ E.T)(ys:List (aD E.T.El))(bl:List (ay E.T.El)):D (eO E.T.El):=match fZ [] c.a_ c.pbs bl ys with
 |(a,b)=>match AL c.pbs (E' c.ws),gP a [] false c.a_ c.pbs b with
  |true,some (d,sel)=>UX E a sel d c.ws (c.fn d)
  |_,_=>.no
def v_.Eq(E:Env)(a0:dN E)(LE:h7 E)(f:Nat)(c:v_ E.T):Prop:=∀(aN:cQ E.T.El c.a_)(aO:cg E.T.El c.pbs),(kE E a0 LE f (fa id (b7 false c.pbs) c.a_ aN) (bw id (b7 false c.pbs) false c.pbs aO)).run c.iR.fin=(c.fn (aN,aO)).map λ r=>GX (aN,aO) c.ws r
def k4(T:bA)(t bC:Nat):g5 T:=⟨[.p (.l t)],[],[.p (.R 0)],[.r t false],List (T.El t),λ d=>b2 bC [] d.1.1,λ _ r=>(((),()),(r,()))⟩
section
variable{E:Env}{t:dz E}
theorem vp{c:g5 E.T}{ys:List (aD E.T.El)}{bl:List (ay E.T.El)}{r:eO E.T.El}(h:(c.run E ys bl).out r):(c.gC.run E ys bl).out r:=by
 unfold g5.run at h;unfold eN.run g5.gC;dsimp only;cases a:fZ [] c.a_ c.pbs bl ys with
 |mk d e=>
 rw[a]at h;dsimp only at h⊢;split at h;rename_i I J;rw[I,J];obtain⟨q,b,al⟩:=h;exact⟨_,by rw[b];rfl,al⟩;exact h.elim
theorem Um{a_:List cG}{pbs:List bx}{bl:List (ay E.T.El)}{sel us:List Nat}{d:cQ E.T.El a_×cg E.T.El pbs}:∀ {ws:List (fj E.T a_ pbs)}{o:Option (yo ws)}{r:bS E.T.El},(LD E bl sel us d ws o).out r->(xy E bl sel us (xX ws) (o.map (dB d ws))).out r
 |[],o,r,h=>h.elim
 |[w],o,r,h=>by obtain⟨q,a,al⟩:=h;exact⟨_,by rw[a];rfl,al⟩
 |w::v::ws,o,r,h=>by rcases h with⟨q,a,al⟩|⟨q,a,al⟩;exact .inl ⟨_,by rw[a];rfl,al⟩;exact .inr ⟨_,by rw[a];rfl,Um al⟩
theorem ag1{c:c0 E.T}{F:Nat}{s:c1 E.T.El}{r:bS E.T.El}(h:(c.run E F s).out r):(c.u0.run E F s).out r:=by
 unfold c0.run at h;unfold g2.run c0.u0;dsimp only at h⊢;cases hy:lT E s.bl s.f [] (c.eJ.map .tmp)with
 |none=>rw[hy]at h;exact h.elim
 |some ys=>
  rw[hy]at h;dsimp only at h⊢;cases a:fZ [] c.a_ c.pbs s.bl ys with
  |mk b d=>
  rw[a]at h;dsimp only at h⊢;cases I:xq c.pbs (xX c.ws)&&(h4 c.pbs c.pbs&&nR c.pbs c.pbs)with
  |false=>rw[I]at h;exact h.elim
  |true=>
   cases J:gP b [] false c.a_ c.pbs d with
   |none=>rw[I,J]at h;exact h.elim
   |some ds=>rw[I,J]at h;exact Um h
theorem dz.dF.rt(a:cv E)(b:ik E)(h:t.dF){f:Nat}(d:ev E.bU f=true){c:g5 E.T}(e:c.Eq E t.a0 t.LE f):(t.f f (c.run E)).dF:=h.oj d λ ys bl r g=>wy a (kF a h.ce h.le 100) h.le b (c:=c.gC) (eN.Eq.v e) ys bl r (vp g)
theorem dz.dF.dL(a:cv E)(b:ik E)(h:t.dF){g i:Nat}(I:sV E.P g i=true){c:c0 E.T}(d:c.u0.l8 E t.a0 (t.LE g) (kh E.P g) i (oo E.P g i))(F:Nat):(t.l g i (c.run E F)).dF:=h.Ot a I λ e s r f=>h.RI a b I d F e s r (ag1 f)
theorem dz.dF.abP(a:cv E)(d:ik E)(h:t.dF){f:Nat}(e:ev E.bU f=true){c:g5 E.T}(g:c.Eq E t.a0 t.LE f):(t.zc f c).dF:=by refine h.oj e λ ys bl r b=>?_;split at b;exact wy a (kF a h.ce h.le 100) h.le d (c:=c.gC) (eN.Eq.v g) ys bl r (vp b);exact((kF a h.ce h.le 100).ok f ys bl r b).2
theorem dz.dF.EX(j:cv E)(n:ik E)(h:t.dF){f b bC:Nat}(o:ev E.bU f=true)
 (p:(kE E t.a0 t.LE f [.p (.slice none 0 0)] []).run (k4 E.T b bC).gC.fin=some (((),()),([],())))
 (I:∀(a:Addr)(c:Nat),(kE E t.a0 t.LE f [.p (.slice (some a) 0 c)] []).run (k4 E.T b bC).gC.fin=some (((),()),([],())))
 (J:∀(d:E.T.El b)(l:List (E.T.El b)),(kE E t.a0 t.LE f [.s b (d::l)] []).run (k4 E.T b bC).gC.fin=(b2 bC [] (d::l)).bind λ r=>some (((),()),(r,()))):(t.f f ((k4 E.T b bC).run E)).dF:=by
 refine h.oj o λ ys bl r q=>wy j (kF j h.ce h.le 100) h.le n (c:=(k4 E.T b bC).gC) (λ aN aO F w ρ bl vs k=>?_) ys bl r (vp q)
 obtain⟨l,⟨⟩⟩:=aN
 have s:b2 bC ([]:List (E.T.El b)) []=some []:=by simp[b2]
 have m:∀l:List (E.T.El b),(k4 E.T b bC).gC.fn ((l,()),aO)=(b2 bC [] l).bind λ r=>some (((),()),(r,())):=λ l=>by
  show fe _ (b2 bC [] l)=_
  cases b2 bC ([]:List (E.T.El b)) l<;>rfl
 cases l with
 |cons d l=>exact⟨_,k,λ r g=>(J d l).trans ((m _).symm.trans g)⟩
 |nil=>
  have fl:aR E.T F w ρ bl [.s b []] vs:=k;simp only[aR,aq]at fl;obtain⟨u,us,rfl,v,rfl⟩:=fl;obtain⟨A,c,e,x,al,aL,_⟩:=v;simp only[hN,and_true]at e;subst e;have i:=m [];rw[s]at i;cases A with
  |none=>rw[aL rfl];exact⟨[.p (.slice none 0 0)],by simp[aR,aq],λ r g=>p.trans (i.symm.trans g)⟩
  |some a=>exact⟨[.p (.slice (some a) 0 c)],by simp[aR,aq],λ r g=>(I a c).trans (i.symm.trans g)⟩
end
end a8
namespace ad
def bF{ρ α:Type}(o:Option (Way ρ α)):Option (α⊕ρ):=match o with
 |none=>none
 |some (.go a)=>some (.inl a)
 |some (.out r)=>some (.inr r)
def dK{α:Type}(p:Prop)(o:Option α):Option α:=@ite _ p (Classical.propDecidable p) o none
theorem ek{α:Type}{p:Prop}{o:Option α}(h:p):dK p o=o:=by unfold dK;exact lX h
theorem ej{α:Type}{p:Prop}:dK p (none:Option α)=none:=by unfold dK;split<;>rfl
theorem en{α:Type}{p:Prop}{o:Option α}{r:α}(h:dK p o=some r):p/\o=some r:=by unfold dK at h;split at h;rename_i a;exact⟨a,h⟩;cases h
section
variable{α β ck pn ρ σ:Type}
theorem ahD(o:Option (Way ρ α))(k:α->Option (Way ρ β)):dj o k=dx (bF o) k (λ r=>some (.out r)):=by
 cases o with
 |none=>rfl
 |some y=>cases y<;>rfl
theorem ahO(o:Option (Way ρ α))(k:α->Option ρ):cT o k=dx (bF o) k (λ r=>some r):=by
 cases o with
 |none=>rfl
 |some y=>cases y<;>rfl
theorem ahV(a:α):bF (some (.go a):Option (Way ρ α))=some (.inl a):=rfl
theorem ahW(r:ρ):bF (some (.out r):Option (Way ρ α))=some (.inr r):=rfl
theorem ahX:bF (none:Option (Way ρ α))=none:=rfl
theorem ahY(o:Option ck)(f:ck->Option (Way ρ α)):bF (o.bind f)=o.bind λ x=>bF (f x):=by cases o<;>rfl
theorem ahZ(c:Bool)(x y:Option (Way ρ α)):bF (cond c x y)=cond c (bF x) (bF y):=by cases c<;>rfl
theorem ah0(o:Option (ck⊕pn))(f:ck->Option (Way ρ α))(g:pn->Option (Way ρ α)):bF (dx o f g)=dx o (λ x=>bF (f x)) (λ x=>bF (g x)):=by
 cases o with
 |none=>rfl
 |some y=>cases y<;>rfl
theorem ah1(a:α)(k:α->Option ck)(l:β->Option ck):dx (some (.inl a)) k l=k a:=rfl
theorem ahE(b:β)(k:α->Option ck)(l:β->Option ck):dx (some (.inr b)) k l=l b:=rfl
theorem ahF(k:α->Option ck)(l:β->Option ck):dx none k l=none:=rfl
theorem ahG(o:Option pn)(f:pn->Option (α⊕β))(k:α->Option ck)(l:β->Option ck):dx (o.bind f) k l=o.bind λ x=>dx (f x) k l:=by cases o<;>rfl
theorem ahH(c:Bool)(x y:Option (α⊕β))(k:α->Option ck)(l:β->Option ck):dx (cond c x y) k l=cond c (dx x k l) (dx y k l):=by cases c<;>rfl
theorem ahI(o:Option (ρ⊕σ))(f:ρ->Option (α⊕β))(g:σ->Option (α⊕β))(k:α->Option ck)(l:β->Option ck):dx (dx o f g) k l=dx o (λ x=>dx (f x) k l) (λ x=>dx (g x) k l):=by
 cases o with
 |none=>rfl
 |some y=>cases y<;>rfl
theorem ahJ(o:Option α)(f:α->Option β)(g:β->Option ck):(o.bind f).bind g=o.bind λ x=>(f x).bind g:=by cases o<;>rfl
theorem ahK(a:α)(f:α->Option β):(some a).bind f=f a:=rfl
theorem ahL(f:α->Option β):fs none f=none:=rfl
theorem ahM(c:Bool)(x y:Option α)(f:α->Option β):(cond c x y).bind f=cond c (x.bind f) (y.bind f):=by cases c<;>rfl
theorem ahN(o:Option (ρ⊕σ))(k:ρ->Option α)(l:σ->Option α)(f:α->Option β):(dx o k l).bind f=dx o (λ x=>(k x).bind f) (λ x=>(l x).bind f):=by
 cases o with
 |none=>rfl
 |some y=>cases y<;>rfl
theorem ahP(o:Option α)(f:α->Option β)(g:β->ck):(o.bind f).map g=o.bind λ x=>(f x).map g:=by cases o<;>rfl
theorem ahQ(c:Bool)(x y:Option α)(g:α->ck):(cond c x y).map g=cond c (x.map g) (y.map g):=by cases c<;>rfl
theorem ahR(a:α)(g:α->ck):(some a).map g=some (g a):=rfl
theorem ahS(g:α->ck):fe g none=none:=rfl
theorem ahT(o:Option (ρ⊕σ))(k:ρ->Option α)(l:σ->Option α)(g:α->ck):(dx o k l).map g=dx o (λ x=>(k x).map g) (λ x=>(l x).map g):=by
 cases o with
 |none=>rfl
 |some y=>cases y<;>rfl
theorem ahU{b6:Type}(k:b6)(b:b6->Option α):join k b=b k:=rfl
theorem ahB(b x:Bool):cond b (some x) (some false)=some (b&&x):=by cases b<;>rfl
theorem b8:(∀ {α β ρ:Type}(o:Option (Way ρ α))(k:α->Option (Way ρ β)),dj o k=dx (bF o) k (λ r=>some (.out r)))/\(∀ {α ρ:Type}(o:Option (Way ρ α))(k:α->Option ρ),cT o k=dx (bF o) k (λ r=>some r))/\(∀ {α ρ:Type}(a:α),bF (some (.go a):Option (Way ρ α))=some (.inl a))/\(∀ {α ρ:Type}(r:ρ),bF (some (.out r):Option (Way ρ α))=some (.inr r))/\(∀ {α ρ:Type},bF (none:Option (Way ρ α))=none)/\(∀ {α ck ρ:Type}(o:Option ck)(f:ck->Option (Way ρ α)),bF (o.bind f)=o.bind λ x=>bF (f x))/\(∀ {α ρ:Type}(c:Bool)(x y:Option (Way ρ α)),bF (cond c x y)=cond c (bF x) (bF y))/\(∀ {α ck pn ρ:Type}(o:Option (ck⊕pn))(f:ck->Option (Way ρ α))(g:pn->Option (Way ρ α)),bF (dx o f g)=dx o (λ x=>bF (f x)) (λ x=>bF (g x)))/\(∀ {α β ck:Type}(a:α)(k:α->Option ck)(l:β->Option ck),dx (some (.inl a)) k l=k a)/\(∀ {α β ck:Type}(b:β)(k:α->Option ck)(l:β->Option ck),dx (some (.inr b)) k l=l b)/\(∀ {α β ck:Type}(k:α->Option ck)(l:β->Option ck),dx none k l=none)/\(∀ {α β ck pn:Type}(o:Option pn)(f:pn->Option (α⊕β))(k:α->Option ck)(l:β->Option ck),dx (o.bind f) k l=o.bind λ x=>dx (f x) k l)/\(∀ {α β ck:Type}(c:Bool)(x y:Option (α⊕β))(k:α->Option ck)(l:β->Option ck),dx (cond c x y) k l=cond c (dx x k l) (dx y k l))/\(∀ {α β ck ρ σ:Type}(o:Option (ρ⊕σ))(f:ρ->Option (α⊕β))(g:σ->Option (α⊕β))(k:α->Option ck)(l:β->Option ck),dx (dx o f g) k l=dx o (λ x=>dx (f x) k l) (λ x=>dx (g x) k l))/\(∀ {α β ck:Type}(o:Option α)(f:α->Option β)(g:β->Option ck),(o.bind f).bind g=o.bind λ x=>(f x).bind g)/\(∀ {α β:Type}(a:α)(f:α->Option β),(some a).bind f=f a)/\(∀ {α β:Type}(f:α->Option β),fs none f=none)/\(∀ {α β:Type}(c:Bool)(x y:Option α)(f:α->Option β),(cond c x y).bind f=cond c (x.bind f) (y.bind f))/\(∀ {α β ρ σ:Type}(o:Option (ρ⊕σ))(k:ρ->Option α)(l:σ->Option α)(f:α->Option β),(dx o k l).bind f=dx o (λ x=>(k x).bind f) (λ x=>(l x).bind f))/\(∀ {α β ck:Type}(o:Option α)(f:α->Option β)(g:β->ck),(o.bind f).map g=o.bind λ x=>(f x).map g)/\(∀ {α ck:Type}(c:Bool)(x y:Option α)(g:α->ck),(cond c x y).map g=cond c (x.map g) (y.map g))/\(∀ {α ck:Type}(a:α)(g:α->ck),(some a).map g=some (g a))/\(∀ {α ck:Type}(g:α->ck),fe g none=none)/\(∀ {α ck ρ σ:Type}(o:Option (ρ⊕σ))(k:ρ->Option α)(l:σ->Option α)(g:α->ck),(dx o k l).map g=dx o (λ x=>(k x).map g) (λ x=>(l x).map g))/\(∀ {α:Type}{b6:Type}(k:b6)(b:b6->Option α),join k b=b k):=⟨ahD,ahO,ahV,ahW,ahX,ahY,ahZ,ah0,ah1,ahE,ahF,ahG,ahH,ahI,ahJ,ahK,ahL,ahM,ahN,ahP,ahQ,ahR,ahS,ahT,ahU⟩
end
end ad
namespace a8
open Go Go.RowKit aA ad
theorem c0.dT{E:Env}{a0:dN E}{LE:jl E}{n id:Nat}{body:Code}{c:c0 E.T}(a:∀d,c.fn 0 d=none)
 (I:∀k (aN:cQ E.T.El c.a_)(aO:cg E.T.El c.pbs) q,c.fn (k+1) (aN,aO)=some q->(den E a0 LE n body (r3 E c.u0 aN aO)).run (c.u0.fin E id k)=(c.fn (k+1) (aN,aO)).map λ r=>dB (aN,aO) c.ws r):c.u0.l8 E a0 LE n id body:=
 ⟨λ d=>by exact(congrArg (fe _) (a d)).trans rfl,λ k aN aO r h=>by obtain⟨q,b,_⟩:=c9.1 h;exact(I k aN aO q b).trans h⟩
def okF(P:Program)(f:Nat):Bool:=match P.funcs[f]? with
 |some fn=>!(fn.name== "runtime.NumGoroutine")&& !fn.body.isNone
 |none=>false
theorem TW{P:Program}{f:Nat}(h:okF P f=true)(args:Array Value)(w:World):(callFunc f args).run P w= .ok (.enter f args) w:=by
 unfold okF at h;split at h
 ·rename_i fn a;simp only[bL,gI]at h;have I: ¬fn.name= "runtime.NumGoroutine" :=λ e=>by rw[e]at h;simp at h
  cases ag:fn.body with
  |none=>rw[ag]at h;simp at h
  |some c=>simp[callFunc,go_sem,a,I,ag]
 ·cases h
def Ey(P:Program):List Nat->Bool
 |[]=>true
 |f::r=>okF P f&&Ey P r
theorem Ll{P:Program}:∀ {l:List Nat}{f:Nat},Ey P l=true->f∈l->okF P f=true
 |g::r,f,h,af=>by simp only[Ey,bL]at h;rcases dc.1 af with rfl |af;exact h.1;exact Ll h.2 af
theorem EY{α:Type}{A B:cE α}{F F':Nat->Prop}{w w':World}(h:∀cs d,A.rd F w cs d->B.rd F' w' cs d):∀ {l:List α}{xs:List Value},cS A F w xs l->cS B F' w' xs l
 |[],xs,a=>a
 |d::r,xs,a=>by obtain⟨cs,ys,rfl,I,J⟩:=a;exact⟨cs,ys,rfl,h _ _ I,EY h J⟩
theorem n0{α:Type}{A B:cE α}{F:Nat->Prop}{w:World}(h:∀cs d,A.rd F w cs d->B.rd F w cs d){xs:List Value}{l:List α}(a:(cM A).rd F w xs l):(cM B).rd F w xs l:=by obtain⟨P,c,e,I,J,b,f⟩:=a;refine⟨P,c,e,I,J,b,λ g=>?_⟩;obtain⟨i,j,ys,k,m⟩:=f g;exact⟨i,j,ys,EY h k,m⟩
def pu(P:Program)(T:bA)(t:Nat)(e:bz T.El t):Prop:=∀f,e.eq=some f->∀F w xs ys d e',e.ty.rd F w xs d->e.ty.rd F w ys e'->∀(o:Oper)(a:Act)(x y:Operand)(t':TypeId)(b:Bool),o.op= .binOp (cond b .eql .neq) t x y t'->a.eval x= .agg ⟨xs⟩->a.eval y= .agg ⟨ys⟩->∀w',aS P o a w' (.bool (cond b (f d e') (!f d e'))) w'
def Hj(P:Program)(T:bA):List (Σ t,bz T.El t)->Prop
 |[]=>True
 |p::r=>pu P T p.1 p.2/\Hj P T r
theorem Hh{P:Program}{T:bA}{t:Nat}:∀ {es:List (Σ t,bz T.El t)},Hj P T es->pu P T t (gm es t)
 |[],_=>λ f a=>by cases a
 |p::r,h=>by simp only[gm];split;rename_i e _;subst e;exact h.1;exact Hh h.2
theorem ei{P:Program}{T:bA}{t:Nat}{e:bz T.El t}(h:e.eq=none):pu P T t e:=λ f a=>by rw[h]at a;cases a
section
variable{E:Env}{f:Nat}
theorem ahg(W:World):Mem E.T W [] (λ _=>False) [] [] W:=⟨aY.refl _ _,rfl,λ _ h=>h.elim,λ k ⟨i,B,h,I,_⟩=>by simp at I,λ i j B C h g I=>by simp at I,λ i B h I=>by simp at I⟩
theorem agJ{W:World}(b:il E (λ _=>False) [] [] W){g:List (aD E.T.El)->List (ay E.T.El)->D (eO E.T.El)}(hc:iI E f g){ys:List (aD E.T.El)}(c:(g ys []).out ⟨.ret (.p (.bool true)),[],[]⟩){vs:List Value}(d:aR E.T (λ k=>k<W.heap.size) W [] [] ys vs) :
 Calls E.P f ⟨vs⟩ W λ e w'=>e= .returned (.bool true)/\aY [] W w':=by
 have j:aR E.T (aW (λ _=>False) ([]:List (ay E.T.El)) [] W) W [] [] ys vs:=aR.later (λ k l=>⟨⟨λ h=>h,λ⟨i,B,h,I,_⟩=>by simp at I,l⟩,rfl⟩) .refl ys d
 refine(hc ys [] _ c W [] (λ _=>False) [] W vs (ahg W) b j).mono λ e w' ⟨ρ',m,_,_,a⟩=>?_
 cases e with
 |returned v=>
  have a:v= .bool true:=by simp only[rD,aq]at a;exact a
  exact⟨by rw[a],m.bM⟩
 |panicked oq=>exact a.elim
 |outgrown=>exact a.elim
end
section
variable{T:bA}{W w w':World}{ar:List Nat}{X:Nat->Prop}{bl:List (ay T.El)}{ρ:List Value}{E:List aU}{D:List bc}
variable{t sz:Nat}{h:Value}{l:List (T.El t)}{xs:List Value}{R:cE (T.El t)}
variable{t' pc:Nat}{h':Value}{l':List (T.El t')}{ec:List Value}{Ol:cE (T.El t')}
theorem ac3{A:Option Addr}{n c k:Nat}(a:k∈ag (.slice A n c)):k∈(Value.slice A n c).ownBlock.toList:=by cases A<;>cases c<;>simp_all [ag,Value.ownBlock]
theorem Mw{F:Nat->Prop}{M:List Nat}(a:(aU.row t sz h l xs).ok w')(b:(bc.rows R xs l).ok M w')(e:(T.ty t).size=sz)(dg:∀F cs d,R.rd F w' cs d->∀F',(T.ty t).rd F' w' cs d)(g k:Nat):g4 T F w' ρ bl (.r t g k l) h:=by subst e;obtain⟨A,c,rfl,_⟩:=E8 a;exact⟨A,c,xs,rfl,.inl a,EY (λ cs d f=>dg _ _ _ f _) b⟩
theorem C_(a:a9 w [] [] w' E D)(hi:aU.row t sz h l xs∈E){g k:Nat}:∀q∈a6 (ay.r t g k l:ay T.El) h,q∈(aU.row t sz h l xs).a6/\w.heap.size<=q/\q<w'.heap.size:=λ q d=>by obtain⟨A,c,rfl,_⟩:=E8 (a.ok _ hi);have b:q∈(aU.row t sz (.slice A l.length c) l xs).a6:=ac3 d;have I:=a.lt q (hn.2 ⟨_,hi,b⟩);exact⟨b,I.2.resolve_left (by simp),I.1⟩
theorem Mem.akG(c:Mem T W ar X bl ρ w)(a:a9 w [] [] w' (aU.row t sz h l xs::E) (bc.rows R xs l::D))(e:(T.ty t).size=sz)(dg:∀F cs d,R.rd F w' cs d->∀F',(T.ty t).rd F' w' cs d) :
 Mem T W ar X (bl++[.r t 0 0 l]) (ρ++[h]) w'/\To X bl (bl++[.r t 0 0 l]) ρ (ρ++[h]) w w':=
 ⟨c.push a.bM (λ q b=>(C_ (xs:=xs) (sz:=sz) a (by simp) q b).2) (Mw (a.e 0 rfl) (a.d 0 rfl) e dg 0 0),c.tm a.bM λ q b=>(C_ (xs:=xs) (sz:=sz) a (by simp) q b).2⟩
theorem Mem.akH(f:Mem T W ar X bl ρ w)(a:a9 w [] [] w' (aU.row t sz h l xs::aU.row t' pc h' l' ec::E) (bc.rows R xs l::bc.rows Ol ec l'::D))(i:(T.ty t).size=sz)(dg:∀F cs d,R.rd F w' cs d->∀F',(T.ty t).rd F' w' cs d)
 (j:(T.ty t').size=pc)(m:∀F cs d,Ol.rd F w' cs d->∀F',(T.ty t').rd F' w' cs d) :
 Mem T W ar X (bl++[.r t 0 0 l,.r t' 0 0 l']) (ρ++[h,h']) w'/\To X bl (bl++[.r t 0 0 l,.r t' 0 0 l']) ρ (ρ++[h,h']) w w':=by
 have c:=C_ (T:=T) (g:=0) (k:=0) (l:=l) (h:=h) (xs:=xs) (sz:=sz) a (by simp)
 have e:=C_ (T:=T) (g:=0) (k:=0) (l:=l') (h:=h') (xs:=ec) (sz:=pc) a (by simp)
 have aE:=a.a3
 simp only[bD,iw]at aE
 refine⟨f.Ui a.bM (λ q b=>(c q b).2) (λ q b=>(e q b).2) (λ q I J=>?_) (Mw (a.e 0 rfl) (a.d 0 rfl) i dg 0 0) (Mw (a.e 1 rfl) (a.d 1 rfl) j m 0 0),f.MZ a.bM (λ q b=>(c q b).2) λ q b=>(e q b).2⟩
 exact(ft.1 aE).2.2 q (c q I).1 q (lz _ (e q J).1) rfl
end
def ak2{α β:Type}(T:cE α)(n:Nat)(aQ:β->List α):cE β where
 size:=n*T.size
 rd F w cs d:=cS T F w cs (aQ d)/\(aQ d).length=n
 len h:=by rw[nV T h.1,h.2]
 one h v a:=vm T h.1 v a
 law b h:=⟨ki _ b h.1,h.2⟩
def Vn{El:Nat->Type}{s t:Nat}(e:bz El s)(n:Nat)(aQ:El t->List (El s)):bz El t:=⟨ak2 e.ty n aQ,true,λ d=>(aQ d).flatMap e.cs,λ _=>none,none,none,some ⟨s,aQ⟩⟩
section
variable{T:bA}{F:Nat->Prop}{w:World}
theorem Pq{s:Nat}{e:bz T.El s}(a:c7 T s e):∀ {l:List (T.El s)}{xs:List Value},cS e.ty F w xs l->aR T F w [] [] (l.flatMap e.cs) xs
 |[],xs,h=>by simp only[cS]at h;subst h;simp[aR]
 |d::r,xs,h=>by obtain⟨cs,ys,rfl,I,J⟩:=h;rw[iw];exact(a.cs d F w cs I).b2 (Pq a J)
theorem akK{s t n:Nat}{e:bz T.El s}{aQ:T.El t->List (T.El s)}(b:c7 T s e)(a:e.ty=T.ty s):c7 T t (Vn e n aQ):=⟨λ d F w xs h=>Pq b h.1,(λ l d h=>by cases h),(λ K h=>by cases h),(λ h=>by cases h),λ s' f h d F w xs c=>by cases h;rw[<-a];exact c.1⟩
end
end a8
namespace Go.Proofs.YtifhjkbiiekamaaDoor
open Go Go.RowKit aA a8
def bR:Nat->Type:=Qc [(2,Int),(3,Int),(4,Bool),(5,UInt8),(6,UInt8),(9,List UInt8),(10,List UInt8),(11,List UInt8),(21,Int),(94,ad.Field),(40,ad.Kind),(107,ad.Handler),(43,ad.Method),(37,ad.ap),(22,List ad.ap),(24,List Int),(34,List ad.Field),(25,List (List ad.Field)),(77,List (List UInt8)),(26,List (List (List UInt8))),(116,ad.Target),(78,List ad.Target),(27,List (List ad.Target)),(29,ad.c4),(30,Int),(35,List ad.Method),(38,List ad.Kind),(41,List ad.Handler),(53,ad.State),(44,List ad.State),(46,ad.vW),(55,ad.pw),(49,List ad.pw),(83,Int),(88,ad.M_),(149,ad.M9),(156,List UInt8),(172,UInt8),(173,UInt8),(176,Int),(177,Int),(84,List (Int))]
def Qq:List (Σ t,bz bR t):=[]
def al:bz bR 2:=dM Qq false [.i .i64] (λ(d:Int)=>(d,())) (λ(p:Int×Unit)=>p.1) none (some sf)
def Hk:List (Σ t,bz bR t):=⟨2,al⟩::Qq
def aL:bz bR 3:=dM Hk false [.i .i64] (λ(d:Int)=>(d,())) (λ(p:Int×Unit)=>p.1) none (some sf)
def QE:List (Σ t,bz bR t):=⟨3,aL⟩::Hk
def bB:bz bR 4:=dM QE false [.b] (λ(d:Bool)=>(d,())) (λ(p:Bool×Unit)=>p.1) none none
def Hm:List (Σ t,bz bR t):=⟨4,bB⟩::QE
def ch:bz bR 5:=dM Hm false [.y] (λ(d:UInt8)=>(d,())) (λ(p:UInt8×Unit)=>p.1) none none
def QN:List (Σ t,bz bR t):=⟨5,ch⟩::Hm
def fH:bz bR 6:=dM QN false [.y] (λ(d:UInt8)=>(d,())) (λ(p:UInt8×Unit)=>p.1) none none
def Ho:List (Σ t,bz bR t):=⟨6,fH⟩::QN
def P':bz bR 9:=dM Ho false [.s] (λ(d:List UInt8)=>(d,())) (λ(p:(List UInt8)×Unit)=>p.1) none (some Aj)
def QU:List (Σ t,bz bR t):=⟨9,P'⟩::Ho
def wA:bz bR 10:=dM QU false [.s] (λ(d:List UInt8)=>(d,())) (λ(p:(List UInt8)×Unit)=>p.1) none (some Aj)
def Qr:List (Σ t,bz bR t):=⟨10,wA⟩::QU
def wB:bz bR 11:=dM Qr false [.s] (λ(d:List UInt8)=>(d,())) (λ(p:(List UInt8)×Unit)=>p.1) none (some Aj)
def Qs:List (Σ t,bz bR t):=⟨11,wB⟩::Qr
def PP:bz bR 21:=dM Qs false [.i .i32] (λ(d:Int)=>(d,())) (λ(p:Int×Unit)=>p.1) none none
def y8:List (Σ t,bz bR t):=⟨21,PP⟩::Qs
def G_:bz bR 94:=dM y8 true [.s,.i .i64,.s] (λ(d:ad.Field)=>(d.Name,d.Kind.Kind,d.Kind.ap,())) (λ(p:(List UInt8)×Int×(List UInt8)×Unit)=>(⟨p.1,⟨p.2.1,p.2.2.1⟩⟩:ad.Field)) (some λ(d e:ad.Field)=>decide (d=e)) none
def C2:List (Σ t,bz bR t):=⟨94,G_⟩::y8
def G5:bz bR 40:=dM C2 true [.i .i64,.s] (λ(d:ad.Kind)=>(d.Kind,d.ap,())) (λ(p:Int×(List UInt8)×Unit)=>(⟨p.1,p.2.1⟩:ad.Kind)) (some λ(d e:ad.Kind)=>decide (d=e)) none
def C0:List (Σ t,bz bR t):=⟨40,G5⟩::C2
def G3:bz bR 107:=dM C0 true [.i .i64,.i .i64,.i .i64,.s] (λ(d:ad.Handler)=>(d.From,d.To,d.dJ,d.ap,())) (λ(p:Int×Int×Int×(List UInt8)×Unit)=>(⟨p.1,p.2.1,p.2.2.1,p.2.2.2.1⟩:ad.Handler)) (some λ(d e:ad.Handler)=>decide (d=e)) none
def CZ:List (Σ t,bz bR t):=⟨107,G3⟩::C0
def P2:bz bR 43:=dM CZ true [.s,.b,.l 40,.i .i64,.s,.i .i64,.i .i64,.s,.l 107] (λ(d:ad.Method)=>(d.Name,d.Static,d.b9,d.Returns.Kind,d.Returns.ap,d.gh,d.gg,d.Code,d.cj,())) (λ(p:(List UInt8)×Bool×(List ad.Kind)×Int×(List UInt8)×Int×Int×(List UInt8)×(List ad.Handler)×Unit)=>(⟨p.1,p.2.1,p.2.2.1,⟨p.2.2.2.1,p.2.2.2.2.1⟩,p.2.2.2.2.2.1,p.2.2.2.2.2.2.1,p.2.2.2.2.2.2.2.1,p.2.2.2.2.2.2.2.2.1⟩:ad.Method)) none none
def C1:List (Σ t,bz bR t):=⟨43,P2⟩::CZ
def PZ:bz bR 37:=dM C1 true [.s,.s,.l 94,.l 43] (λ(d:ad.ap)=>(d.Name,d.b_,d.Fields,d.a1,())) (λ(p:(List UInt8)×(List UInt8)×(List ad.Field)×(List ad.Method)×Unit)=>(⟨p.1,p.2.1,p.2.2.1,p.2.2.2.1⟩:ad.ap)) none none
def QI:List (Σ t,bz bR t):=⟨37,PZ⟩::C1
def PQ:bz bR 22:=dM QI false [.l 37] (λ(d:List ad.ap)=>(d,())) (λ(p:(List ad.ap)×Unit)=>p.1) none none
def Qz:List (Σ t,bz bR t):=⟨22,PQ⟩::QI
def PR:bz bR 24:=dM Qz false [.l 3] (λ(d:List Int)=>(d,())) (λ(p:(List Int)×Unit)=>p.1) none none
def QA:List (Σ t,bz bR t):=⟨24,PR⟩::Qz
def PX:bz bR 34:=dM QA false [.l 94] (λ(d:List ad.Field)=>(d,())) (λ(p:(List ad.Field)×Unit)=>p.1) none none
def QG:List (Σ t,bz bR t):=⟨34,PX⟩::QA
def PS:bz bR 25:=dM QG false [.l 34] (λ(d:List (List ad.Field))=>(d,())) (λ(p:(List (List ad.Field))×Unit)=>p.1) none none
def QB:List (Σ t,bz bR t):=⟨25,PS⟩::QG
def P6:bz bR 77:=dM QB false [.l 9] (λ(d:List (List UInt8))=>(d,())) (λ(p:(List (List UInt8))×Unit)=>p.1) none none
def QQ:List (Σ t,bz bR t):=⟨77,P6⟩::QB
def PT:bz bR 26:=dM QQ false [.l 77] (λ(d:List (List (List UInt8)))=>(d,())) (λ(p:(List (List (List UInt8)))×Unit)=>p.1) none none
def Hl:List (Σ t,bz bR t):=⟨26,PT⟩::QQ
def G4:bz bR 116:=dM Hl true [.i .i64,.i .i64] (λ(d:ad.Target)=>(d.ap,d.Method,())) (λ(p:Int×Int×Unit)=>(⟨p.1,p.2.1⟩:ad.Target)) (some λ(d e:ad.Target)=>decide (d=e)) none
def Qt:List (Σ t,bz bR t):=⟨116,G4⟩::Hl
def P7:bz bR 78:=dM Qt false [.l 116] (λ(d:List ad.Target)=>(d,())) (λ(p:(List ad.Target)×Unit)=>p.1) none none
def QR:List (Σ t,bz bR t):=⟨78,P7⟩::Qt
def PU:bz bR 27:=dM QR false [.l 78] (λ(d:List (List ad.Target))=>(d,())) (λ(p:(List (List ad.Target))×Unit)=>p.1) none none
def QC:List (Σ t,bz bR t):=⟨27,PU⟩::QR
def PV:bz bR 29:=dM QC true [.l 37,.l 3,.l 34,.l 77,.l 78] (λ(d:ad.c4)=>(d.gz,d.eh,d.Fields,d.Names,d.eE,())) (λ(p:(List ad.ap)×(List Int)×(List (List ad.Field))×(List (List (List UInt8)))×(List (List ad.Target))×Unit)=>(⟨p.1,p.2.1,p.2.2.1,p.2.2.2.1,p.2.2.2.2.1⟩:ad.c4)) none none
def QD:List (Σ t,bz bR t):=⟨29,PV⟩::QC
def PW:bz bR 30:=dM QD false [.i .i64] (λ(d:Int)=>(d,())) (λ(p:Int×Unit)=>p.1) none (some sf)
def QF:List (Σ t,bz bR t):=⟨30,PW⟩::QD
def PY:bz bR 35:=dM QF false [.l 43] (λ(d:List ad.Method)=>(d,())) (λ(p:(List ad.Method)×Unit)=>p.1) none none
def QH:List (Σ t,bz bR t):=⟨35,PY⟩::QF
def P0:bz bR 38:=dM QH false [.l 40] (λ(d:List ad.Kind)=>(d,())) (λ(p:(List ad.Kind)×Unit)=>p.1) none none
def QJ:List (Σ t,bz bR t):=⟨38,P0⟩::QH
def P1:bz bR 41:=dM QJ false [.l 107] (λ(d:List ad.Handler)=>(d,())) (λ(p:(List ad.Handler)×Unit)=>p.1) none none
def QK:List (Σ t,bz bR t):=⟨41,P1⟩::QJ
def P5:bz bR 53:=dM QK true [.b,.l 40,.l 40] (λ(d:ad.State)=>(d.Comes,d.gg,d.gh,())) (λ(p:Bool×(List ad.Kind)×(List ad.Kind)×Unit)=>(⟨p.1,p.2.1,p.2.2.1⟩:ad.State)) none none
def QO:List (Σ t,bz bR t):=⟨53,P5⟩::QK
def P3:bz bR 44:=dM QO false [.l 53] (λ(d:List ad.State)=>(d,())) (λ(p:(List ad.State)×Unit)=>p.1) none none
def QL:List (Σ t,bz bR t):=⟨44,P3⟩::QO
def G6:bz bR 46:=dM QL true [.i .i64,.i .i64] (λ(d:ad.vW)=>(d.Err,d.dJ,())) (λ(p:Int×Int×Unit)=>(⟨p.1,p.2.1⟩:ad.vW)) (some λ(d e:ad.vW)=>decide (d=e)) none
def QM:List (Σ t,bz bR t):=⟨46,G6⟩::QL
def G8:bz bR 55:=dM QM true [.i .i64,.i .i64,.i .i64,.i .i64] (λ(d:ad.pw)=>(d.dJ,d.Op,d.A,d.B,())) (λ(p:Int×Int×Int×Int×Unit)=>(⟨p.1,p.2.1,p.2.2.1,p.2.2.2.1⟩:ad.pw)) (some λ(d e:ad.pw)=>decide (d=e)) none
def QP:List (Σ t,bz bR t):=⟨55,G8⟩::QM
def P4:bz bR 49:=dM QP false [.l 55] (λ(d:List ad.pw)=>(d,())) (λ(p:(List ad.pw)×Unit)=>p.1) none none
def Hn:List (Σ t,bz bR t):=⟨49,P4⟩::QP
def G9:bz bR 83:=dM Hn false [.i .i64] (λ(d:Int)=>(d,())) (λ(p:Int×Unit)=>p.1) none (some sf)
def QS:List (Σ t,bz bR t):=⟨83,G9⟩::Hn
def P_:bz bR 88:=dM QS true [.l 37,.l 3,.l 34,.l 77,.l 78] (λ(d:ad.M_)=>(d.k.gz,d.k.eh,d.k.Fields,d.k.Names,d.k.eE,())) (λ(p:(List ad.ap)×(List Int)×(List (List ad.Field))×(List (List (List UInt8)))×(List (List ad.Target))×Unit)=>(⟨⟨p.1,p.2.1,p.2.2.1,p.2.2.2.1,p.2.2.2.2.1⟩⟩:ad.M_)) none none
def QT:List (Σ t,bz bR t):=⟨88,P_⟩::QS
def PI:bz bR 149:=dM QT true [.l 40,.l 40] (λ(d:ad.M9)=>(d.xR,d.aiA,())) (λ(p:(List ad.Kind)×(List ad.Kind)×Unit)=>(⟨p.1,p.2.1⟩:ad.M9)) none none
def Qu:List (Σ t,bz bR t):=⟨149,PI⟩::QT
def PJ:bz bR 156:=dM Qu false [.l 5] (λ(d:List UInt8)=>(d,())) (λ(p:(List UInt8)×Unit)=>p.1) none none
def Qv:List (Σ t,bz bR t):=⟨156,PJ⟩::Qu
def PK:bz bR 172:=dM Qv false [.y] (λ(d:UInt8)=>(d,())) (λ(p:UInt8×Unit)=>p.1) none none
def Qw:List (Σ t,bz bR t):=⟨172,PK⟩::Qv
def PL:bz bR 173:=dM Qw false [.y] (λ(d:UInt8)=>(d,())) (λ(p:UInt8×Unit)=>p.1) none none
def Qx:List (Σ t,bz bR t):=⟨173,PL⟩::Qw
def PN:bz bR 176:=dM Qx false [.i .i32] (λ(d:Int)=>(d,())) (λ(p:Int×Unit)=>p.1) none none
def Qy:List (Σ t,bz bR t):=⟨176,PN⟩::Qx
def PO:bz bR 177:=dM Qy false [.i .i32] (λ(d:Int)=>(d,())) (λ(p:Int×Unit)=>p.1) none none
def aa8:List (Σ t,bz bR t):=⟨177,PO⟩::Qy
def P9:bz bR 84:=Vn G9 37 (λ(d:List (Int))=>(d:List (bR 83)))
def aa9:List (Σ t,bz bR t):=⟨84,P9⟩::aa8
def bf:bA:=⟨bR,aa9⟩
theorem aaf:c7 bf 2 al:=dR trivial (λ _=>rfl) (λ h=>by rfl) (λ K h F w xs k a=>by cases h;obtain⟨v,vs,rfl,I,rfl⟩:=a;exact I)
theorem aal:c7 bf 3 aL:=dR trivial (λ _=>rfl) (λ h=>by rfl) (λ K h F w xs k a=>by cases h;obtain⟨v,vs,rfl,I,rfl⟩:=a;exact I)
theorem aas:c7 bf 4 bB:=dR trivial (λ _=>rfl) (λ h=>by rfl) (λ K h=>by cases h)
theorem aav:c7 bf 5 ch:=dR trivial (λ _=>rfl) (λ h=>by rfl) (λ K h=>by cases h)
theorem aax:c7 bf 6 fH:=dR trivial (λ _=>rfl) (λ h=>by rfl) (λ K h=>by cases h)
theorem aaE:c7 bf 9 P':=dR trivial (λ _=>rfl) (λ h=>by rfl) (λ K h F w xs k a=>by cases h;obtain⟨v,vs,rfl,I,rfl⟩:=a;exact I)
theorem ZW:c7 bf 10 wA:=dR trivial (λ _=>rfl) (λ h=>by rfl) (λ K h F w xs k a=>by cases h;obtain⟨v,vs,rfl,I,rfl⟩:=a;exact I)
theorem ZY:c7 bf 11 wB:=dR trivial (λ _=>rfl) (λ h=>by rfl) (λ K h F w xs k a=>by cases h;obtain⟨v,vs,rfl,I,rfl⟩:=a;exact I)
theorem Z9:c7 bf 21 PP:=dR trivial (λ _=>rfl) (λ h=>by rfl) (λ K h=>by cases h)
theorem aaD:c7 bf 94 G_:=dR trivial (λ _=>rfl) (λ h=>by cases h) (λ K h=>by cases h)
theorem aam:c7 bf 40 G5:=dR trivial (λ _=>rfl) (λ h=>by cases h) (λ K h=>by cases h)
theorem ZV:c7 bf 107 G3:=dR trivial (λ _=>rfl) (λ h=>by cases h) (λ K h=>by cases h)
theorem aao:c7 bf 43 P2:=dR ⟨by kernel_rfl,by kernel_rfl,trivial⟩ (λ _=>rfl) (λ h=>by cases h) (λ K h=>by cases h)
theorem aaj:c7 bf 37 PZ:=dR ⟨by kernel_rfl,by kernel_rfl,trivial⟩ (λ _=>rfl) (λ h=>by cases h) (λ K h=>by cases h)
theorem Z_:c7 bf 22 PQ:=dR ⟨by kernel_rfl,trivial⟩ (λ _=>rfl) (λ h=>by rfl) (λ K h=>by cases h)
theorem Z':c7 bf 24 PR:=dR ⟨by kernel_rfl,trivial⟩ (λ _=>rfl) (λ h=>by rfl) (λ K h=>by cases h)
theorem aah:c7 bf 34 PX:=dR ⟨by kernel_rfl,trivial⟩ (λ _=>rfl) (λ h=>by rfl) (λ K h=>by cases h)
theorem aab:c7 bf 25 PS:=dR ⟨by kernel_rfl,trivial⟩ (λ _=>rfl) (λ h=>by rfl) (λ K h=>by cases h)
theorem aay:c7 bf 77 P6:=dR ⟨by kernel_rfl,trivial⟩ (λ _=>rfl) (λ h=>by rfl) (λ K h=>by cases h)
theorem aac:c7 bf 26 PT:=dR ⟨by kernel_rfl,trivial⟩ (λ _=>rfl) (λ h=>by rfl) (λ K h=>by cases h)
theorem ZX:c7 bf 116 G4:=dR trivial (λ _=>rfl) (λ h=>by cases h) (λ K h=>by cases h)
theorem aaz:c7 bf 78 P7:=dR ⟨by kernel_rfl,trivial⟩ (λ _=>rfl) (λ h=>by rfl) (λ K h=>by cases h)
theorem aad:c7 bf 27 PU:=dR ⟨by kernel_rfl,trivial⟩ (λ _=>rfl) (λ h=>by rfl) (λ K h=>by cases h)
theorem aae:c7 bf 29 PV:=dR ⟨by kernel_rfl,by kernel_rfl,by kernel_rfl,by kernel_rfl,by kernel_rfl,trivial⟩ (λ _=>rfl) (λ h=>by cases h) (λ K h=>by cases h)
theorem aag:c7 bf 30 PW:=dR trivial (λ _=>rfl) (λ h=>by rfl) (λ K h F w xs k a=>by cases h;obtain⟨v,vs,rfl,I,rfl⟩:=a;exact I)
theorem aai:c7 bf 35 PY:=dR ⟨by kernel_rfl,trivial⟩ (λ _=>rfl) (λ h=>by rfl) (λ K h=>by cases h)
theorem aak:c7 bf 38 P0:=dR ⟨by kernel_rfl,trivial⟩ (λ _=>rfl) (λ h=>by rfl) (λ K h=>by cases h)
theorem aan:c7 bf 41 P1:=dR ⟨by kernel_rfl,trivial⟩ (λ _=>rfl) (λ h=>by rfl) (λ K h=>by cases h)
theorem aat:c7 bf 53 P5:=dR ⟨by kernel_rfl,by kernel_rfl,trivial⟩ (λ _=>rfl) (λ h=>by cases h) (λ K h=>by cases h)
theorem aap:c7 bf 44 P3:=dR ⟨by kernel_rfl,trivial⟩ (λ _=>rfl) (λ h=>by rfl) (λ K h=>by cases h)
theorem aaq:c7 bf 46 G6:=dR trivial (λ _=>rfl) (λ h=>by cases h) (λ K h=>by cases h)
theorem aau:c7 bf 55 G8:=dR trivial (λ _=>rfl) (λ h=>by cases h) (λ K h=>by cases h)
theorem aar:c7 bf 49 P4:=dR ⟨by kernel_rfl,trivial⟩ (λ _=>rfl) (λ h=>by rfl) (λ K h=>by cases h)
theorem P8:c7 bf 83 G9:=dR trivial (λ _=>rfl) (λ h=>by rfl) (λ K h F w xs k a=>by cases h;obtain⟨v,vs,rfl,I,rfl⟩:=a;exact I)
theorem aaC:c7 bf 88 P_:=dR ⟨by kernel_rfl,by kernel_rfl,by kernel_rfl,by kernel_rfl,by kernel_rfl,trivial⟩ (λ _=>rfl) (λ h=>by cases h) (λ K h=>by cases h)
theorem Z1:c7 bf 149 PI:=dR ⟨by kernel_rfl,by kernel_rfl,trivial⟩ (λ _=>rfl) (λ h=>by cases h) (λ K h=>by cases h)
theorem Z3:c7 bf 156 PJ:=dR ⟨by kernel_rfl,trivial⟩ (λ _=>rfl) (λ h=>by rfl) (λ K h=>by cases h)
theorem Z5:c7 bf 172 PK:=dR trivial (λ _=>rfl) (λ h=>by rfl) (λ K h=>by cases h)
theorem Z6:c7 bf 173 PL:=dR trivial (λ _=>rfl) (λ h=>by rfl) (λ K h=>by cases h)
theorem Z7:c7 bf 176 PN:=dR trivial (λ _=>rfl) (λ h=>by rfl) (λ K h=>by cases h)
theorem Z8:c7 bf 177 PO:=dR trivial (λ _=>rfl) (λ h=>by rfl) (λ K h=>by cases h)
theorem aaB:c7 bf 84 P9:=akK P8 (by kernel_rfl)
theorem Vj:pz bf:=akJ ⟨aaB,Z8,Z7,Z6,Z5,Z3,Z1,aaC,P8,aar,aau,aaq,aap,aat,aan,aak,aai,aag,aae,aad,aaz,ZX,aac,aay,aab,aah,Z',Z_,aaj,aao,ZV,aam,aaD,Z9,ZY,ZW,aaE,aax,aav,aas,aal,aaf,trivial⟩
open Go Go.RowKit aA ad a8
def wM:List (Nat×aD bf.El):=[(0,.x 84 (([0,1,0,3,3,0,0,0,0,0,0,0,0,2,2,2,2,2,3,4,4,0,3,0,0,0,4,0,0,3,3,0,0,0,4,0,0]:List Int):bf.El 84) 0),(1,.x 40 ((⟨3,[79,98,106,101,99,116]⟩:ad.Kind):bf.El 40) 0),(2,.x 40 ((⟨6,[]⟩:ad.Kind):bf.El 40) 0),(3,.x 40 ((⟨5,[]⟩:ad.Kind):bf.El 40) 0),(4,.x 40 ((⟨1,[]⟩:ad.Kind):bf.El 40) 0),(5,.x 40 ((⟨2,[]⟩:ad.Kind):bf.El 40) 0)]
theorem RD:∀g y,c6 wM g=some y->∃t d o,y= .x t d o:=λ g y h=>by have:=jE h;simp only[wM,dc,cY,hx,or_false]at this;rcases this with⟨_,rfl⟩|⟨_,rfl⟩|⟨_,rfl⟩|⟨_,rfl⟩|⟨_,rfl⟩|⟨_,rfl⟩<;>exact⟨_,_,_,rfl⟩
def bd:Env:=⟨Tryd.prog,bf,wM,false,[2,3,4,5,6,7,8,9,10,11,12,13,14,15,16,17,18,19,20,21,22,23,24,25,26,27,28,29,30,31,32,33,34,35,36,37,38,39,40,41,42,43,44,45,46,47,48,49,50,51,52,53,54,55,56,57,58,59,60,61,62,63,64,65,66,67,68,69,70,71,72,73,74,75,76,77,78,79,80,81,82,83,84,85,86,87,88,90,91,92,93,94,95,96,97,98,99,124],5,λ l=>l⟩
def hk:Env:=⟨Tryd.prog,bf,wM,true,[2,3,4,5,6,7,8,9,10,11,12,13,14,15,16,17,18,19,20,21,22,23,24,25,26,27,28,29,30,31,32,33,34,35,36,37,38,39,40,41,42,43,44,45,46,47,48,49,50,51,52,53,54,55,56,57,58,59,60,61,62,63,64,65,66,67,68,69,70,71,72,73,74,75,76,77,78,79,80,81,82,83,84,85,86,87,88,90,91,92,93,94,95,96,97,98,99,124],5,λ l=>l⟩
theorem rY:ik bd:=RD
theorem RG:ik hk:=RD
def hj:dz bd:=⟨[],[]⟩
theorem ah9(b:cv bd)(h:hj.dF):(hj.f 44 ((k4 bd.T 94 40).run bd)).dF:=h.EX b rY rfl (by kernel_rfl) (λ a c=>by kernel_rfl) λ d l=>by kernel_rfl
def tE:dz bd:=hj.f 44 ((k4 bd.T 94 40).run bd)
theorem ah_(b:cv bd)(h:tE.dF):(tE.f 45 ((k4 bd.T 43 128).run bd)).dF:=h.EX b rY rfl (by kernel_rfl) (λ a c=>by kernel_rfl) λ d l=>by kernel_rfl
def m6:dz bd:=tE.f 45 ((k4 bd.T 43 128).run bd)
theorem ah'(b:cv bd)(h:m6.dF):(m6.f 46 ((k4 bd.T 40 24).run bd)).dF:=h.EX b rY rfl (by kernel_rfl) (λ a c=>by kernel_rfl) λ d l=>by kernel_rfl
def Ga:dz bd:=m6.f 46 ((k4 bd.T 40 24).run bd)
theorem aia(b:cv bd)(h:Ga.dF):(Ga.f 47 ((k4 bd.T 107 40).run bd)).dF:=h.EX b rY rfl (by kernel_rfl) (λ a c=>by kernel_rfl) λ d l=>by kernel_rfl
def W_:dz bd:=Ga.f 47 ((k4 bd.T 107 40).run bd)
theorem aiJ:pu Tryd.prog bf 94 G_:=by intro f i F w xs ys d e j hy o a x y t' b c g h w';obtain rfl:=eR i;obtain⟨_,_,rfl,rfl,_,_,rfl,rfl,_,_,rfl,rfl,rfl⟩:=j;obtain⟨_,_,rfl,rfl,_,_,rfl,rfl,_,_,rfl,rfl,rfl⟩:=hy;cases b;exact aa1 c g h;exact aaV c g h
theorem aiD:pu Tryd.prog bf 40 G5:=by intro f i F w xs ys d e j hy o a x y t' b c g h w';obtain rfl:=eR i;obtain⟨_,_,rfl,rfl,_,_,rfl,rfl,rfl⟩:=j;obtain⟨_,_,rfl,rfl,_,_,rfl,rfl,rfl⟩:=hy;cases b;exact aa4 c g h;exact aaY c g h
theorem aaW{o:Oper}{a:Act}{w:World}{t':TypeId}{x y:Operand}{X Y:ad.Handler}(b:o.op= .binOp .eql 107 x y t')(c:a.eval x= .agg #[.int .i64 X.From,.int .i64 X.To,.int .i64 X.dJ,aA.bQ X.ap])(hy:a.eval y= .agg #[.int .i64 Y.From,.int .i64 Y.To,.int .i64 Y.dJ,aA.bQ Y.ap]):aA.aS Tryd.prog o a w (.bool (decide (X=Y))) w:=by
 have aE:decide (X=Y)=decide (X.From=Y.From/\X.To=Y.To/\X.dJ=Y.dJ/\X.ap=Y.ap/\True):=by rcases X with⟨_,_,_,_⟩;rcases Y with⟨_,_,_,_⟩;simp
 rw[aE];exact aA.x8 Tryd.underlying107 (by kernel_rfl) (by kernel_rfl) (aA.fX rfl Tryd.underlying3 Tryd.isAgg3 rfl rfl (aA.fX rfl Tryd.underlying3 Tryd.isAgg3 rfl rfl (aA.fX rfl Tryd.underlying3 Tryd.isAgg3 rfl rfl (aA.rR rfl Tryd.underlying9 Tryd.isAgg9 rfl rfl (by simp[aA.kC]))))) b c hy
theorem aa2{o:Oper}{a:Act}{w:World}{t':TypeId}{x y:Operand}{X Y:ad.Handler}(b:o.op= .binOp .neq 107 x y t')(c:a.eval x= .agg #[.int .i64 X.From,.int .i64 X.To,.int .i64 X.dJ,aA.bQ X.ap])(hy:a.eval y= .agg #[.int .i64 Y.From,.int .i64 Y.To,.int .i64 Y.dJ,aA.bQ Y.ap]):aA.aS Tryd.prog o a w (.bool (!decide (X=Y))) w:=by
 have aE:decide (X=Y)=decide (X.From=Y.From/\X.To=Y.To/\X.dJ=Y.dJ/\X.ap=Y.ap/\True):=by rcases X with⟨_,_,_,_⟩;rcases Y with⟨_,_,_,_⟩;simp
 rw[aE];exact aA.x9 Tryd.underlying107 (by kernel_rfl) (by kernel_rfl) (aA.fX rfl Tryd.underlying3 Tryd.isAgg3 rfl rfl (aA.fX rfl Tryd.underlying3 Tryd.isAgg3 rfl rfl (aA.fX rfl Tryd.underlying3 Tryd.isAgg3 rfl rfl (aA.rR rfl Tryd.underlying9 Tryd.isAgg9 rfl rfl (by simp[aA.kC]))))) b c hy
theorem aiB:pu Tryd.prog bf 107 G3:=by intro f i F w xs ys d e j hy o a x y t' b c g h w';obtain rfl:=eR i;obtain⟨_,_,rfl,rfl,_,_,rfl,rfl,_,_,rfl,rfl,_,_,rfl,rfl,rfl⟩:=j;obtain⟨_,_,rfl,rfl,_,_,rfl,rfl,_,_,rfl,rfl,_,_,rfl,rfl,rfl⟩:=hy;cases b;exact aa2 c g h;exact aaW c g h
theorem aiC:pu Tryd.prog bf 116 G4:=by intro f i F w xs ys d e j hy o a x y t' b c g h w';obtain rfl:=eR i;obtain⟨_,_,rfl,rfl,_,_,rfl,rfl,rfl⟩:=j;obtain⟨_,_,rfl,rfl,_,_,rfl,rfl,rfl⟩:=hy;cases b;exact aa5 c g h;exact aaZ c g h
theorem aaU{o:Oper}{a:Act}{w:World}{t':TypeId}{x y:Operand}{X Y:ad.vW}(b:o.op= .binOp .eql 46 x y t')(c:a.eval x= .agg #[.int .i64 X.Err,.int .i64 X.dJ])(hy:a.eval y= .agg #[.int .i64 Y.Err,.int .i64 Y.dJ]):aA.aS Tryd.prog o a w (.bool (decide (X=Y))) w:=by
 have aE:decide (X=Y)=decide (X.Err=Y.Err/\X.dJ=Y.dJ/\True):=by rcases X with⟨_,_⟩;rcases Y with⟨_,_⟩;simp
 rw[aE];exact aA.x8 Tryd.underlying46 (by kernel_rfl) (by kernel_rfl) (aA.fX rfl Tryd.underlying30 Tryd.isAgg30 rfl rfl (aA.fX rfl Tryd.underlying3 Tryd.isAgg3 rfl rfl (by simp[aA.kC]))) b c hy
theorem aa0{o:Oper}{a:Act}{w:World}{t':TypeId}{x y:Operand}{X Y:ad.vW}(b:o.op= .binOp .neq 46 x y t')(c:a.eval x= .agg #[.int .i64 X.Err,.int .i64 X.dJ])(hy:a.eval y= .agg #[.int .i64 Y.Err,.int .i64 Y.dJ]):aA.aS Tryd.prog o a w (.bool (!decide (X=Y))) w:=by
 have aE:decide (X=Y)=decide (X.Err=Y.Err/\X.dJ=Y.dJ/\True):=by rcases X with⟨_,_⟩;rcases Y with⟨_,_⟩;simp
 rw[aE];exact aA.x9 Tryd.underlying46 (by kernel_rfl) (by kernel_rfl) (aA.fX rfl Tryd.underlying30 Tryd.isAgg30 rfl rfl (aA.fX rfl Tryd.underlying3 Tryd.isAgg3 rfl rfl (by simp[aA.kC]))) b c hy
theorem aiF:pu Tryd.prog bf 46 G6:=by intro f i F w xs ys d e j hy o a x y t' b c g h w';obtain rfl:=eR i;obtain⟨_,_,rfl,rfl,_,_,rfl,rfl,rfl⟩:=j;obtain⟨_,_,rfl,rfl,_,_,rfl,rfl,rfl⟩:=hy;cases b;exact aa0 c g h;exact aaU c g h
theorem aaX{o:Oper}{a:Act}{w:World}{t':TypeId}{x y:Operand}{X Y:ad.pw}(b:o.op= .binOp .eql 55 x y t')(c:a.eval x= .agg #[.int .i64 X.dJ,.int .i64 X.Op,.int .i64 X.A,.int .i64 X.B])(hy:a.eval y= .agg #[.int .i64 Y.dJ,.int .i64 Y.Op,.int .i64 Y.A,.int .i64 Y.B]):aA.aS Tryd.prog o a w (.bool (decide (X=Y))) w:=by
 have aE:decide (X=Y)=decide (X.dJ=Y.dJ/\X.Op=Y.Op/\X.A=Y.A/\X.B=Y.B/\True):=by rcases X with⟨_,_,_,_⟩;rcases Y with⟨_,_,_,_⟩;simp
 rw[aE];exact aA.x8 Tryd.underlying55 (by kernel_rfl) (by kernel_rfl) (aA.fX rfl Tryd.underlying3 Tryd.isAgg3 rfl rfl (aA.fX rfl Tryd.underlying3 Tryd.isAgg3 rfl rfl (aA.fX rfl Tryd.underlying3 Tryd.isAgg3 rfl rfl (aA.fX rfl Tryd.underlying3 Tryd.isAgg3 rfl rfl (by simp[aA.kC]))))) b c hy
theorem aa3{o:Oper}{a:Act}{w:World}{t':TypeId}{x y:Operand}{X Y:ad.pw}(b:o.op= .binOp .neq 55 x y t')(c:a.eval x= .agg #[.int .i64 X.dJ,.int .i64 X.Op,.int .i64 X.A,.int .i64 X.B])(hy:a.eval y= .agg #[.int .i64 Y.dJ,.int .i64 Y.Op,.int .i64 Y.A,.int .i64 Y.B]):aA.aS Tryd.prog o a w (.bool (!decide (X=Y))) w:=by
 have aE:decide (X=Y)=decide (X.dJ=Y.dJ/\X.Op=Y.Op/\X.A=Y.A/\X.B=Y.B/\True):=by rcases X with⟨_,_,_,_⟩;rcases Y with⟨_,_,_,_⟩;simp
 rw[aE];exact aA.x9 Tryd.underlying55 (by kernel_rfl) (by kernel_rfl) (aA.fX rfl Tryd.underlying3 Tryd.isAgg3 rfl rfl (aA.fX rfl Tryd.underlying3 Tryd.isAgg3 rfl rfl (aA.fX rfl Tryd.underlying3 Tryd.isAgg3 rfl rfl (aA.fX rfl Tryd.underlying3 Tryd.isAgg3 rfl rfl (by simp[aA.kC]))))) b c hy
theorem aiG:pu Tryd.prog bf 55 G8:=by intro f i F w xs ys d e j hy o a x y t' b c g h w';obtain rfl:=eR i;obtain⟨_,_,rfl,rfl,_,_,rfl,rfl,_,_,rfl,rfl,_,_,rfl,rfl,rfl⟩:=j;obtain⟨_,_,rfl,rfl,_,_,rfl,rfl,_,_,rfl,rfl,_,_,rfl,rfl,rfl⟩:=hy;cases b;exact aa3 c g h;exact aaX c g h
theorem Qp:Hj Tryd.prog bf bf.es:=⟨ei rfl,ei rfl,ei rfl,ei rfl,ei rfl,ei rfl,ei rfl,ei rfl,ei rfl,ei rfl,aiG,aiF,ei rfl,ei rfl,ei rfl,ei rfl,ei rfl,ei rfl,ei rfl,ei rfl,ei rfl,aiC,ei rfl,ei rfl,ei rfl,ei rfl,ei rfl,ei rfl,ei rfl,ei rfl,aiB,aiD,aiJ,ei rfl,ei rfl,ei rfl,ei rfl,ei rfl,ei rfl,ei rfl,ei rfl,ei rfl,trivial⟩
theorem Rk:Ey Tryd.prog bd.bU=true:=by kernel_rfl
theorem OL(F:Nat->Prop)(w:World)(l:List UInt8)(xs:List Value)(h:cS Fs F w xs l):cS (bf.ty 5) F w xs l:=by refine EY (A:=Fs) (B:=bf.ty 5) (λ cs d h=>?_) h;change fb (λ t=>(gm Hm t).ty) F w [.y] cs (d,());exact⟨_,_,h,rfl,rfl⟩
theorem nl:cv bd:=⟨Vj,λ f a=>TW (Ll Rk a),by kernel_rfl,λ l=>rfl,OL,λ t=>Hh Qp⟩
theorem ud:cv hk:=⟨Vj,λ f a=>TW (Ll Rk a),by kernel_rfl,λ l=>rfl,OL,λ t=>Hh Qp⟩
end Go.Proofs.YtifhjkbiiekamaaDoor
namespace ad
def j9(a:Int)(b:Int)(c:Int):Option (Bool):=some ((decide (b<=a))&&(decide (a<=c)))
def DP(a:Int):Option (Bool):=some ((decide (a=3))||(decide (a=4)))
def uI(mG:List UInt8):Nat->Int->Option (Way (Bool) (Unit))
 |0,_=>none
 |b3+1,b=>
  cond (decide (b<(mG.length:Int))) ((idx mG b).bind λ a=>
  cond (((((decide ((a.toNat:Int)<97))||(decide (122<(a.toNat:Int))))&&((decide ((a.toNat:Int)<65))||(decide (90<(a.toNat:Int)))))&&((decide ((a.toNat:Int)<48))||(decide (57<(a.toNat:Int)))))&&(!decide ((a.toNat:Int)=95))) (some (.out false)) (uI mG b3 (bj (b+1)))) (some (.go ()))
def kW(F:Nat)(s_:List UInt8):Option (Bool):=
 (bytesOf s_).bind λ mG=>
 cT (α:=Unit) (uI mG F 0) λ(_:Unit)=>
 some ((!decide (s_=[]))&&(decide ((s_.length:Int)<=20)))
def qh(F:Nat)(a:Kind):Option (Bool):=
 (DP a.Kind).bind λ b=>
 cond (b) ((kW F a.ap).bind λ c=>
 some c) (some (((decide (a.Kind=1))||(decide (a.Kind=2)))&&(decide (a.ap=[]))))
def sb(F:Nat)(a:Method):Nat->Int->Option (Way (Int) (Unit))
 |0,_=>none
 |b3+1,b=>
  cond (decide (b<(a.b9.length:Int))) ((idx a.b9 b).bind λ d=>
  (qh F (⟨d.Kind,d.ap⟩:Kind)).bind λ c=>
  cond (!c) (some (.out 7)) (sb F a b3 (bj (b+1)))) (some (.go ()))
def uM(F:Nat)(b:Method):Nat->Int->Option (Way (Int) (Unit))
 |0,_=>none
 |f'+1,c=>
  cond (decide (c<(b.cj.length:Int))) ((idx b.cj c).bind λ a=>
  (kW F a.ap).bind λ d=>
  cond (!d) (some (.out 1)) ((j9 a.From 0 200).bind λ e=>
  cond (!e) (some (.out 3)) ((j9 a.To 0 200).bind λ f=>
  cond (!f) (some (.out 3)) ((j9 a.dJ 0 200).bind λ g=>
  cond (!g) (some (.out 3)) (uM F b f' (bj (c+1))))))) (some (.go ()))
def nC(F:Nat)(b:Method):Nat->Int->Option (Way (Int) (Unit))
 |0,_=>none
 |iB+1,c=>
  cond (decide (c<(b.cj.length:Int))) ((idx b.cj c).bind λ a=>
  (kW F a.ap).bind λ d=>
  cond (!d) (some (.out 1)) ((j9 a.From 0 200).bind λ e=>
  cond (!e) (some (.out 3)) ((j9 a.To 0 200).bind λ f=>
  cond (!f) (some (.out 3)) ((j9 a.dJ 0 200).bind λ g=>
  cond (!g) (some (.out 3)) (nC F b iB (bj (c+1))))))) (some (.go ()))
def uL(F:Nat)(a:Method):Option (Int):=
 (kW F a.Name).bind λ c=>
 cond (!c) (some 1) (cond (((decide (4<(a.b9.length:Int)))||(decide (200<(a.Code.length:Int))))||(decide (4<(a.cj.length:Int)))) (some 2) ((j9 a.gh 0 10).bind λ d=>
 cond (!d) (some 3) ((j9 a.gg 0 10).bind λ e=>
 cond (!e) (some 3) (cT (α:=Unit) (sb F a F 0) λ(_:Unit)=>
 cond (!decide ((⟨a.Returns.Kind,a.Returns.ap⟩:Kind)=(⟨0,[]⟩:Kind))) ((qh F (⟨a.Returns.Kind,a.Returns.ap⟩:Kind)).bind λ b=>
 cond (!b) (some 7) (cT (α:=Unit) (uM F a F 0) λ(_:Unit)=>
 some 0)) (cT (α:=Unit) (nC F a F 0) λ(_:Unit)=>
 some 0)))))
def uJ(F:Nat)(c_:ap):Nat->Int->Option (Way (Int) (Unit))
 |0,_=>none
 |b3+1,sO=>
  cond (decide (sO<(c_.Fields.length:Int))) ((idx c_.Fields sO).bind λ a=>
  (kW F a.Name).bind λ b=>
  cond (!b) (some (.out 1)) ((qh F (⟨a.Kind.Kind,a.Kind.ap⟩:Kind)).bind λ c=>
  cond (!c) (some (.out 7)) (uJ F c_ b3 (bj (sO+1))))) (some (.go ()))
def uK(F:Nat)(c_:ap):Nat->Int->Option (Way (Int) (Unit))
 |0,_=>none
 |f'+1,b=>
  cond (decide (b<(c_.a1.length:Int))) ((idx c_.a1 b).bind λ a=>
  (uL F (⟨a.Name,a.Static,a.b9,(⟨a.Returns.Kind,a.Returns.ap⟩:Kind),a.gh,a.gg,a.Code,a.cj⟩:Method)).bind λ c=>
  cond (!decide (c=0)) (some (.out c)) (uK F c_ f' (bj (b+1)))) (some (.go ()))
def qg(F:Nat)(c_:ap):Nat->Int->Option (Way (Int) (Unit))
 |0,_=>none
 |iB+1,a=>
  cond (decide (a<(c_.Fields.length:Int))) ((idx c_.Fields a).bind λ b=>
  (kW F b.Name).bind λ c=>
  cond (!c) (some (.out 1)) ((qh F (⟨b.Kind.Kind,b.Kind.ap⟩:Kind)).bind λ d=>
  cond (!d) (some (.out 7)) (qg F c_ iB (bj (a+1))))) (some (.go ()))
def nB(F:Nat)(c_:ap):Nat->Int->Option (Way (Int) (Unit))
 |0,_=>none
 |mC+1,b=>
  cond (decide (b<(c_.a1.length:Int))) ((idx c_.a1 b).bind λ a=>
  (uL F (⟨a.Name,a.Static,a.b9,(⟨a.Returns.Kind,a.Returns.ap⟩:Kind),a.gh,a.gg,a.Code,a.cj⟩:Method)).bind λ c=>
  cond (!decide (c=0)) (some (.out c)) (nB F c_ mC (bj (b+1)))) (some (.go ()))
def Ad(F:Nat)(c_:ap):Option (Int):=
 (kW F c_.Name).bind λ a=>
 cond (!a) (some 1) (cond (!decide (c_.b_=[])) ((kW F c_.b_).bind λ b=>
 cond (!b) (some 1) (cond ((decide (6<(c_.Fields.length:Int)))||(decide (8<(c_.a1.length:Int)))) (some 2) (cT (α:=Unit) (uJ F c_ F 0) λ(_:Unit)=>
 cT (α:=Unit) (uK F c_ F 0) λ(_:Unit)=>
 some 0))) (cond ((decide (6<(c_.Fields.length:Int)))||(decide (8<(c_.a1.length:Int)))) (some 2) (cT (α:=Unit) (qg F c_ F 0) λ(_:Unit)=>
 cT (α:=Unit) (nB F c_ F 0) λ(_:Unit)=>
 some 0)))
def sa(F:Nat)(b:List ap):Nat->Int->Option (Way (Int) (Unit))
 |0,_=>none
 |b3+1,c=>
  cond (decide (c<(b.length:Int))) ((idx b c).bind λ a=>
  (Ad F (⟨a.Name,a.b_,a.Fields,a.a1⟩:ap)).bind λ d=>
  cond (!decide (d=0)) (some (.out d)) (sa F b b3 (bj (c+1)))) (some (.go ()))
def Ac(F:Nat)(a:List ap):Option (Int):=
 cond (decide (10<(a.length:Int))) (some 2) (cT (α:=Unit) (sa F a F 0) λ(_:Unit)=>
 some 0)
def lJ(a:a4):Nat->(List ((List UInt8)×Int))->Int->Option (Way (Int×a4) (List ((List UInt8)×Int)))
 |0,_,_=>none
 |b3+1,b,c=>
  cond (decide (c<(a.l.length:Int))) ((idx a.l c).bind λ d=>
  cond ((eU b d.Name).isSome) (some (.out (6,(⟨a.l,b,a.cL⟩:a4)))) (lJ a b3 (k0 b d.Name c) (bj (c+1)))) (some (.go b))
def xb(F:Nat)(a:a4):Option (Int×a4):=
 cT (α:=List ((List UInt8)×Int)) (lJ a F a.bC 0) λ(b:List ((List UInt8)×Int))=>
 cond ((!((eU b [79,98,106,101,99,116]).isSome))||(!((eU b [69,114,114,111,114]).isSome))) (some (5,(⟨a.l,b,a.cL⟩:a4))) (some (0,(⟨a.l,b,a.cL⟩:a4)))
def qF(a:a4):Nat->Int->Option (Way (Int×a4) (Unit))
 |0,_=>none
 |b3+1,b=>
  cond (decide (b<(a.l.length:Int))) ((idx a.l b).bind λ c=>
  cond (!((decide (c.Name=[79,98,106,101,99,116]))==(decide (c.b_=[])))) (some (.out (4,(⟨a.l,a.bC,a.cL⟩:a4)))) (qF a b3 (bj (b+1)))) (some (.go ()))
def kd(a:a4):Nat->(List Int)->Int->Option (Way (Int×a4) (List Int))
 |0,_,_=>none
 |f'+1,b,c=>
  cond (decide (c<(a.l.length:Int))) (dj (α:=List Int) ((idx a.l c).bind λ d=>
  dj (α:=Int) (dj (α:=Int) (cond (decide (d.b_=[])) (some (.go (-1))) (cond (!((eU a.bC d.b_).isSome)) (some (.out (5,(⟨a.l,a.bC,b⟩:a4)))) (some (.go ((eU a.bC d.b_).getD 0))))) λ(e:Int)=>
  some (.go e)) λ(f:Int)=>
  (b2 8 b [f]).bind λ g=>
  some (.go g)) λ(h:List Int)=>
  kd a f' h (bj (c+1))) (some (.go b))
def oV(b:a4)(c:List Int):Nat->Int->Int->Option (Int)
 |0,_,_=>none
 |mC+1,d,e=>
  cond (decide (e<(b.l.length:Int))) ((idx c d).bind λ a=>
  cond (decide (a<0)) (some a) (oV b c mC a (bj (e+1)))) (some d)
def nF(F:Nat)(a:a4)(b:List Int):Nat->Int->Option (Way (Int×a4) (Unit))
 |0,_=>none
 |iB+1,c=>
  cond (decide (c<(a.l.length:Int))) (dj (α:=Unit) (fs (α:=Int) (fs (α:=Int) (oV a b F c 0) λ(d:Int)=>
  some d) λ(e:Int)=>
  cond (decide (0<=e)) (some (.out (4,(⟨a.l,a.bC,b⟩:a4)))) (some (.go ()))) λ(_:Unit)=>
  nF F a b iB (bj (c+1))) (some (.go ()))
def D4(F:Nat)(a:a4):Option (Int×a4):=
 cT (α:=Unit) (qF a F 0) λ(_:Unit)=>
 cT (α:=List Int) (kd a F a.cL 0) λ(b:List Int)=>
 cT (α:=Unit) (nF F a b F 0) λ(_:Unit)=>
 some (0,(⟨a.l,a.bC,b⟩:a4))
def nH(b:a4):Nat->(List Int)->Int->Option (List Int)
 |0,_,_=>none
 |b3+1,c,a=>
  cond (decide (0<=a)) ((b2 8 c [a]).bind λ d=>
  (idx b.cL a).bind λ e=>
  nH b b3 d e) (some c)
def nG(F:Nat)(a:a4)(b:Int):Option (List Int):=
 fs (α:=List Int) (nH a F [] b) λ(c:List Int)=>
 some c
def Bg(_:List Int):Option Unit:=some ()
def sp(b:a4):List Int->(List Field)->Option (List Field)
 |[],a=>some a
 |tt::E2,a=>
  (idx b.l tt).bind λ c=>
  (b2 40 a c.Fields).bind λ d=>
  sp b E2 d
def oW(F:Nat)(a:a4)(c:Int):Option (List Field):=
 (nG F (⟨a.l,a.bC,a.cL⟩:a4) c).bind λ b=>
 (Bg b).bind λ d=>
 fs (α:=List Field) (sp a b.reverse []) λ(e:List Field)=>
 some e
def D5(F:Nat)(a:a4):Option (Int):=
 (oW F (⟨a.l,a.bC,a.cL⟩:a4) ((eU a.bC [69,114,114,111,114]).getD 0)).bind λ d=>
 (idx a.l ((eU a.bC [69,114,114,111,114]).getD 0)).bind λ b=>
 cond ((!decide (b.b_=[79,98,106,101,99,116]))||(decide ((d.length:Int)=0))) (some 4) ((idx d 0).bind λ c=>
 cond (!decide (c.Kind.Kind=1)) (some 4) (some 0))
def u4(b:Kind)(c:List (List UInt8)):Option (List (List UInt8)):=
 cond (!decide (b.ap=[])) ((b2 16 c [b.ap]).bind λ a=>
 some a) (some c)
def qI(a:ap):Nat->(List (List UInt8))->Int->Option (List (List UInt8))
 |0,_,_=>none
 |f'+1,d,b=>
  cond (decide (b<(a.Fields.length:Int))) ((idx a.Fields b).bind λ e=>
  (u4 (⟨e.Kind.Kind,e.Kind.ap⟩:Kind) d).bind λ c=>
  qI a f' c (bj (b+1))) (some d)
def qJ(a:Method):Nat->(List (List UInt8))->Int->Option (List (List UInt8))
 |0,_,_=>none
 |mC+1,d,b=>
  cond (decide (b<(a.b9.length:Int))) ((idx a.b9 b).bind λ e=>
  (u4 (⟨e.Kind,e.ap⟩:Kind) d).bind λ c=>
  qJ a mC c (bj (b+1))) (some d)
def nL(a:Method):Nat->(List (List UInt8))->Int->Option (List (List UInt8))
 |0,_,_=>none
 |Ai+1,qv,b=>
  cond (decide (b<(a.cj.length:Int))) ((idx a.cj b).bind λ c=>
  (b2 16 qv [c.ap]).bind λ d=>
  nL a Ai d (bj (b+1))) (some qv)
def nK(F:Nat)(b:ap):Nat->(List (List UInt8))->Int->Option (List (List UInt8))
 |0,_,_=>none
 |iB+1,h,c=>
  cond (decide (c<(b.a1.length:Int))) (fs (α:=List (List UInt8)) ((idx b.a1 c).bind λ a=>
  fs (α:=List (List UInt8)) (qJ a F h 0) λ(d:List (List UInt8))=>
  (u4 (⟨a.Returns.Kind,a.Returns.ap⟩:Kind) d).bind λ e=>
  fs (α:=List (List UInt8)) (nL a F e 0) λ(f:List (List UInt8))=>
  some f) λ(g:List (List UInt8))=>
  nK F b iB g (bj (c+1))) (some h)
def qH(F:Nat)(a:a4):Nat->(List (List UInt8))->Int->Option (List (List UInt8))
 |0,_,_=>none
 |b3+1,f,b=>
  cond (decide (b<(a.l.length:Int))) (fs (α:=List (List UInt8)) ((idx a.l b).bind λ g=>
  fs (α:=List (List UInt8)) (qI g F f 0) λ(c:List (List UInt8))=>
  fs (α:=List (List UInt8)) (nK F g F c 0) λ(d:List (List UInt8))=>
  some d) λ(e:List (List UInt8))=>
  qH F a b3 e (bj (b+1))) (some f)
def sw(d:a4)(a:List (List UInt8)):Nat->Int->Option (Way (Int) (Unit))
 |0,_=>none
 |Kb+1,b=>
  cond (decide (b<(a.length:Int))) ((idx a b).bind λ c=>
  cond (!((eU d.bC c).isSome)) (some (.out 5)) (sw d a Kb (bj (b+1)))) (some (.go ()))
def Au(F:Nat)(a:a4):Option (Int):=
 fs (α:=List (List UInt8)) (qH F a F [] 0) λ(b:List (List UInt8))=>
 cT (α:=Unit) (sw a b F 0) λ(_:Unit)=>
 some 0
def sx(a:List (List UInt8)):Nat->(List ((List UInt8)×Bool))->Int->Option (List ((List UInt8)×Bool))
 |0,_,_=>none
 |b3+1,d,b=>
  cond (decide (b<(a.length:Int))) ((idx a b).bind λ c=>
  sx a b3 (k0 d c true) (bj (b+1))) (some d)
def xd(F:Nat)(b:List (List UInt8)):Option (Bool):=
 fs (α:=List ((List UInt8)×Bool)) (sx b F [] 0) λ(a:List ((List UInt8)×Bool))=>
 some (decide ((a.length:Int)<(b.length:Int)))
def qG(a:List Field):Nat->(List (List UInt8))->Int->Option (List (List UInt8))
 |0,_,_=>none
 |f'+1,e,b=>
  cond (decide (b<(a.length:Int))) ((idx a b).bind λ c=>
  (b2 16 e [c.Name]).bind λ d=>
  qG a f' d (bj (b+1))) (some e)
def nJ(a:ap):Nat->(List (List UInt8))->Int->Option (List (List UInt8))
 |0,_,_=>none
 |iB+1,e,b=>
  cond (decide (b<(a.a1.length:Int))) ((idx a.a1 b).bind λ c=>
  (b2 16 e [c.Name]).bind λ d=>
  nJ a iB d (bj (b+1))) (some e)
def st(F:Nat)(a:a4):Nat->Int->Option (Way (Int) (Unit))
 |0,_=>none
 |b3+1,b=>
  cond (decide (b<(a.l.length:Int))) (dj (α:=Unit) ((idx a.l b).bind λ g=>
  (oW F (⟨a.l,a.bC,a.cL⟩:a4) b).bind λ h=>
  fs (α:=List (List UInt8)) (qG h F [] 0) λ(c:List (List UInt8))=>
  fs (α:=List (List UInt8)) (nJ g F [] 0) λ(d:List (List UInt8))=>
  (xd F c).bind λ e=>
  cond (e) (some (.out 6)) ((xd F d).bind λ f=>
  cond (f) (some (.out 6)) (some (.go ())))) λ(_:Unit)=>
  st F a b3 (bj (b+1))) (some (.go ()))
def At(F:Nat)(a:a4):Option (Int):=
 cT (α:=Unit) (st F a F 0) λ(_:Unit)=>
 some 0
def vu(b:List Kind)(c:List Kind):Nat->Int->Option (Way (Bool) (Unit))
 |0,_=>none
 |b3+1,a=>
  cond (decide (a<(b.length:Int))) ((idx b a).bind λ d=>
  (idx c a).bind λ e=>
  cond (!decide (d=e)) (some (.out false)) (vu b c b3 (bj (a+1)))) (some (.go ()))
def Bl(F:Nat)(a:List Kind)(b:List Kind):Option (Bool):=
 cond (!decide ((a.length:Int)=(b.length:Int))) (some false) (cT (α:=Unit) (vu a b F 0) λ(_:Unit)=>
 some true)
def D3(F:Nat)(a:Method)(b:Method):Option (Bool):=
 cond ((!a.Static)&&(!b.Static)) ((Bl F a.b9 b.b9).bind λ c=>
 cond (c) (some (decide ((⟨a.Returns.Kind,a.Returns.ap⟩:Kind)=(⟨b.Returns.Kind,b.Returns.ap⟩:Kind)))) (some false)) (some false)
def nI(F:Nat)(a:Method)(c:ap):Nat->Int->Option (Way (Int) (Unit))
 |0,_=>none
 |mC+1,d=>
  cond (decide (d<(c.a1.length:Int))) ((idx c.a1 d).bind λ b=>
  cond (decide (a.Name=b.Name)) ((D3 F (⟨a.Name,a.Static,a.b9,(⟨a.Returns.Kind,a.Returns.ap⟩:Kind),a.gh,a.gg,a.Code,a.cj⟩:Method) (⟨b.Name,b.Static,b.b9,(⟨b.Returns.Kind,b.Returns.ap⟩:Kind),b.gh,b.gg,b.Code,b.cj⟩:Method)).bind λ e=>
  cond (!e) (some (.out 4)) (nI F a c mC (bj (d+1)))) (nI F a c mC (bj (d+1)))) (some (.go ()))
def ss(F:Nat)(c:a4)(a:ap)(d:Int):Nat->Int->Option (Way (Int) (Unit))
 |0,_=>none
 |iB+1,b=>
  cond (decide (b<(a.a1.length:Int))) (dj (α:=Unit) ((idx a.a1 b).bind λ e=>
  (idx c.l d).bind λ f=>
  dj (α:=Unit) (nI F e f F 0) λ(_:Unit)=>
  some (.go ())) λ(_:Unit)=>
  ss F c a d iB (bj (b+1))) (some (.go ()))
def sr(F:Nat)(c:a4)(d:ap)(a:List Int):Nat->Int->Option (Way (Int) (Unit))
 |0,_=>none
 |f'+1,b=>
  cond (decide (b<(a.length:Int))) (dj (α:=Unit) ((idx a b).bind λ e=>
  dj (α:=Unit) (ss F c d e F 0) λ(_:Unit)=>
  some (.go ())) λ(_:Unit)=>
  sr F c d a f' (bj (b+1))) (some (.go ()))
def sq(F:Nat)(a:a4):Nat->Int->Option (Way (Int) (Unit))
 |0,_=>none
 |b3+1,b=>
  cond (decide (b<(a.l.length:Int))) (dj (α:=Unit) ((idx a.l b).bind λ d=>
  (nG F (⟨a.l,a.bC,a.cL⟩:a4) b).bind λ c=>
  (cut c 1 (c.length:Int)).bind λ e=>
  dj (α:=Unit) (sr F a d e F 0) λ(_:Unit)=>
  some (.go ())) λ(_:Unit)=>
  sq F a b3 (bj (b+1))) (some (.go ()))
def As(F:Nat)(a:a4):Option (Int):=
 cT (α:=Unit) (sq F a F 0) λ(_:Unit)=>
 some 0
def MO(s_:List Field):Option (List Field):=
 (b2 40 ([]:List Field) s_).bind λ a=>
 some a
def MR(s_:List Method):Option (List Method):=
 (b2 128 ([]:List Method) s_).bind λ a=>
 some a
def MQ(s_:List Kind):Option (List Kind):=
 (b2 24 ([]:List Kind) s_).bind λ a=>
 some a
def MP(s_:List Handler):Option (List Handler):=
 (b2 40 ([]:List Handler) s_).bind λ a=>
 some a
def oX:Nat->(List Method)->Int->Int->Option (List Method)
 |0,_,_,_=>none
 |f'+1,d,h,c=>
  cond (decide (c<h)) ((idx d c).bind λ Wy=>
  (MQ Wy.b9).bind λ e=>
  (MP Wy.cj).bind λ f=>
  (idx d c).bind λ a=>
  (some (d.set (c).toNat (⟨a.Name,a.Static,e,(⟨a.Returns.Kind,a.Returns.ap⟩:Kind),a.gh,a.gg,a.Code,a.cj⟩:Method))).bind λ i=>
  (idx i c).bind λ b=>
  (some (i.set (c).toNat (⟨b.Name,b.Static,b.b9,(⟨b.Returns.Kind,b.Returns.ap⟩:Kind),b.gh,b.gg,b.Code,f⟩:Method))).bind λ g=>
  oX f' g h (bj (c+1))) (some d)
def nM(F:Nat)(b:List ap):Nat->(List ap)->Int->Option (List ap)
 |0,_,_=>none
 |b3+1,h,c=>
  cond (decide (c<(b.length:Int))) (fs (α:=List ap) ((idx b c).bind λ a=>
  (MO a.Fields).bind λ d=>
  (MR a.a1).bind λ i=>
  fs (α:=List Method) (oX F i (i.length:Int) 0) λ(e:List Method)=>
  (b2 80 h [(⟨a.Name,a.b_,d,e⟩:ap)]).bind λ f=>
  some f) λ(g:List ap)=>
  nM F b b3 g (bj (c+1))) (some h)
def Av(F:Nat)(b:List ap):Option (List ap):=
 fs (α:=List ap) (nM F b F [] 0) λ(a:List ap)=>
 some a
def tj(s_:List (List UInt8))(b:List UInt8):Nat->Int->Option (Way (Int) (Unit))
 |0,_=>none
 |b3+1,a=>
  cond (decide (a<(s_.length:Int))) ((idx s_ a).bind λ c=>
  cond (decide (b=c)) (some (.out a)) (tj s_ b b3 (bj (a+1)))) (some (.go ()))
def Bp(F:Nat)(s_:List (List UInt8))(a:List UInt8):Option (Int):=
 cT (α:=Unit) (tj s_ a F 0) λ(_:Unit)=>
 some (-1)
def sv(F:Nat)(d:Int)(e:ap):Nat->(List (List UInt8))->(List Target)->Int->Option ((List (List UInt8))×(List Target))
 |0,_,_,_=>none
 |f'+1,b,c,a=>
  cond (decide (a<(e.a1.length:Int))) (fs (α:=(List (List UInt8))×(List Target)) ((idx e.a1 a).bind λ g=>
  (Bp F b g.Name).bind λ f=>
  cond (decide (0<=f)) ((idx c f).bind λ l=>
  (some (c.set (f).toNat (⟨d,a⟩:Target))).bind λ h=>
  some (b,h)) ((b2 16 b [g.Name]).bind λ D0=>
  (b2 16 c [(⟨d,a⟩:Target)]).bind λ i=>
  some (D0,i))) λ((j,k):(List (List UInt8))×(List Target))=>
  sv F d e f' j k (bj (a+1))) (some (b,c))
def su(F:Nat)(c:a4):List Int->(List (List UInt8))->(List Target)->Option ((List (List UInt8))×(List Target))
 |[],a,b=>some (a,b)
 |ea::d,a,b=>
  fs (α:=(List (List UInt8))×(List Target)) ((idx c.l ea).bind λ e=>
  fs (α:=(List (List UInt8))×(List Target)) (sv F ea e F a b 0) λ((f,g):(List (List UInt8))×(List Target))=>
  some (f,g)) λ((h,i):(List (List UInt8))×(List Target))=>
  su F c d h i
def u3(F:Nat)(a:a4)(c:Int):Option ((List (List UInt8))×(List Target)):=
 (nG F (⟨a.l,a.bC,a.cL⟩:a4) c).bind λ b=>
 (Bg b).bind λ f=>
 fs (α:=(List (List UInt8))×(List Target)) (su F a b.reverse [] []) λ((d,e):(List (List UInt8))×(List Target))=>
 some (d,e)
def kZ(F:Nat)(b:List ap)(c:Int×a4)(d:Int×a4):Nat->(List (List Target))->(List (List (List UInt8)))->(List (List Field))->Int->Option (Way (c4×Int) ((List (List Target))×(List (List (List UInt8)))×(List (List Field))))
 |0,_,_,_,_=>none
 |b3+1,j,k,qp,a=>
  cond (decide (a<(b.length:Int))) ((u3 F (⟨b,c.2.bC,d.2.cL⟩:a4) a).bind λ e=>
  (oW F (⟨b,c.2.bC,d.2.cL⟩:a4) a).bind λ f=>
  (b2 24 qp [f]).bind λ l=>
  (b2 24 k [e.1]).bind λ g=>
  (b2 24 j [e.2]).bind λ h=>
  (idx l a).bind λ i=>
  cond ((decide (12<(i.length:Int)))||(decide (16<(e.1.length:Int)))) (some (.out ((⟨[],[],[],[],[]⟩:c4),2))) (kZ F b c d b3 h g l (bj (a+1)))) (some (.go (j,k,qp)))
def oU(F:Nat)(d:List ap):Option (c4×Int):=
 (Ac F d).bind λ e=>
 cond (!decide (e=0)) (some ((⟨[],[],[],[],[]⟩:c4),e)) ((Av F d).bind λ a=>
 (xb F (⟨a,[],[]⟩:a4)).bind λ b=>
 cond (!decide (b.1=0)) (some ((⟨[],[],[],[],[]⟩:c4),b.1)) ((D4 F (⟨a,b.2.bC,[]⟩:a4)).bind λ c=>
 cond (!decide (c.1=0)) (some ((⟨[],[],[],[],[]⟩:c4),c.1)) ((D5 F (⟨a,b.2.bC,c.2.cL⟩:a4)).bind λ f=>
 cond (!decide (f=0)) (some ((⟨[],[],[],[],[]⟩:c4),f)) ((Au F (⟨a,b.2.bC,c.2.cL⟩:a4)).bind λ g=>
 cond (!decide (g=0)) (some ((⟨[],[],[],[],[]⟩:c4),g)) ((At F (⟨a,b.2.bC,c.2.cL⟩:a4)).bind λ h=>
 cond (!decide (h=0)) (some ((⟨[],[],[],[],[]⟩:c4),h)) ((As F (⟨a,b.2.bC,c.2.cL⟩:a4)).bind λ i=>
 cond (!decide (i=0)) (some ((⟨[],[],[],[],[]⟩:c4),i)) (cT (α:=(List (List Target))×(List (List (List UInt8)))×(List (List Field))) (kZ F a b c F [] [] [] 0) λ((j,k,l):(List (List Target))×(List (List (List UInt8)))×(List (List Field)))=>
 some ((⟨a,c.2.cL,l,k,j⟩:c4),0))))))))
def tf(b:List Int)(c:List Int):Nat->Int->Option (Way (Bool) (Unit))
 |0,_=>none
 |b3+1,a=>
  cond (decide (a<(b.length:Int))) ((idx b a).bind λ d=>
  (idx c a).bind λ e=>
  cond (!decide (d=e)) (some (.out false)) (tf b c b3 (bj (a+1)))) (some (.go ()))
def Bn(F:Nat)(a:List Int)(b:List Int):Option (Bool):=
 cond (!decide ((a.length:Int)=(b.length:Int))) (some false) (cT (α:=Unit) (tf a b F 0) λ(_:Unit)=>
 some true)
def tc(b:List Field)(c:List Field):Nat->Int->Option (Way (Bool) (Unit))
 |0,_=>none
 |b3+1,a=>
  cond (decide (a<(b.length:Int))) ((idx b a).bind λ d=>
  (idx c a).bind λ e=>
  cond (!decide (d=e)) (some (.out false)) (tc b c b3 (bj (a+1)))) (some (.go ()))
def Bk(F:Nat)(a:List Field)(b:List Field):Option (Bool):=
 cond (!decide ((a.length:Int)=(b.length:Int))) (some false) (cT (α:=Unit) (tc a b F 0) λ(_:Unit)=>
 some true)
def s8(F:Nat)(b:List (List Field))(c:List (List Field)):Nat->Int->Option (Way (Bool) (Unit))
 |0,_=>none
 |b3+1,a=>
  cond (decide (a<(b.length:Int))) ((idx b a).bind λ d=>
  (idx c a).bind λ e=>
  (Bk F d e).bind λ f=>
  cond (!f) (some (.out false)) (s8 F b c b3 (bj (a+1)))) (some (.go ()))
def Bh(F:Nat)(a:List (List Field))(b:List (List Field)):Option (Bool):=
 cond (!decide ((a.length:Int)=(b.length:Int))) (some false) (cT (α:=Unit) (s8 F a b F 0) λ(_:Unit)=>
 some true)
def tg(b:List (List UInt8))(c:List (List UInt8)):Nat->Int->Option (Way (Bool) (Unit))
 |0,_=>none
 |b3+1,a=>
  cond (decide (a<(b.length:Int))) ((idx b a).bind λ d=>
  (idx c a).bind λ e=>
  cond (!decide (d=e)) (some (.out false)) (tg b c b3 (bj (a+1)))) (some (.go ()))
def Bo(F:Nat)(a:List (List UInt8))(b:List (List UInt8)):Option (Bool):=
 cond (!decide ((a.length:Int)=(b.length:Int))) (some false) (cT (α:=Unit) (tg a b F 0) λ(_:Unit)=>
 some true)
def ta(F:Nat)(b:List (List (List UInt8)))(c:List (List (List UInt8))):Nat->Int->Option (Way (Bool) (Unit))
 |0,_=>none
 |b3+1,a=>
  cond (decide (a<(b.length:Int))) ((idx b a).bind λ d=>
  (idx c a).bind λ e=>
  (Bo F d e).bind λ f=>
  cond (!f) (some (.out false)) (ta F b c b3 (bj (a+1)))) (some (.go ()))
def Bj(F:Nat)(a:List (List (List UInt8)))(b:List (List (List UInt8))):Option (Bool):=
 cond (!decide ((a.length:Int)=(b.length:Int))) (some false) (cT (α:=Unit) (ta F a b F 0) λ(_:Unit)=>
 some true)
def td(b:List Target)(c:List Target):Nat->Int->Option (Way (Bool) (Unit))
 |0,_=>none
 |b3+1,a=>
  cond (decide (a<(b.length:Int))) ((idx b a).bind λ d=>
  (idx c a).bind λ e=>
  cond (!decide (d=e)) (some (.out false)) (td b c b3 (bj (a+1)))) (some (.go ()))
def Bm(F:Nat)(a:List Target)(b:List Target):Option (Bool):=
 cond (!decide ((a.length:Int)=(b.length:Int))) (some false) (cT (α:=Unit) (td a b F 0) λ(_:Unit)=>
 some true)
def s9(F:Nat)(b:List (List Target))(c:List (List Target)):Nat->Int->Option (Way (Bool) (Unit))
 |0,_=>none
 |b3+1,a=>
  cond (decide (a<(b.length:Int))) ((idx b a).bind λ d=>
  (idx c a).bind λ e=>
  (Bm F d e).bind λ f=>
  cond (!f) (some (.out false)) (s9 F b c b3 (bj (a+1)))) (some (.go ()))
def Bi(F:Nat)(a:List (List Target))(b:List (List Target)):Option (Bool):=
 cond (!decide ((a.length:Int)=(b.length:Int))) (some false) (cT (α:=Unit) (s9 F a b F 0) λ(_:Unit)=>
 some true)
def xc(F:Nat)(a:c4)(b:c4):Option (Bool):=
 (Bn F a.eh b.eh).bind λ c=>
 cond (c) ((Bh F a.Fields b.Fields).bind λ d=>
 cond (d) ((Bj F a.Names b.Names).bind λ e=>
 cond (e) ((Bi F a.eE b.eE).bind λ f=>
 some f) (some false)) (some false)) (some false)
def sk(F:Nat)(a:c4):Option (Int):=
 (oU F a.gz).bind λ b=>
 cond (!decide (b.2=0)) (some 4) ((xc F (⟨a.gz,a.eh,a.Fields,a.Names,a.eE⟩:c4) (⟨b.1.gz,b.1.eh,b.1.Fields,b.1.Names,b.1.eE⟩:c4)).bind λ c=>
 cond (!c) (some 4) (some 0))
def Kz(c_:ap)(a:List UInt8):Option (Bool):=some (decide (c_.Name=a))
def th(s_:List ap)(d:List UInt8):Nat->Int->Option (Way (Int) (Unit))
 |0,_=>none
 |b3+1,a=>
  cond (decide (a<(s_.length:Int))) ((idx s_ a).bind λ b=>
  (Kz b d).bind λ c=>
  cond (c) (some (.out a)) (th s_ d b3 (bj (a+1)))) (some (.go ()))
def Fh(F:Nat)(s_:List ap)(a:List UInt8):Option (Int):=
 cT (α:=Unit) (th s_ a F 0) λ(_:Unit)=>
 some (-1)
def sl(F:Nat)(b:c4)(c:List UInt8):Option (Int×Bool):=
 (Fh F b.gz c).bind λ a=>
 some (a,decide (0<=a))
def sn(b:Int)(c:c4):Nat->Int->Option (Way (Bool) (Unit))
 |0,_=>none
 |b3+1,a=>
  cond (decide (0<=a)) (cond (decide (a=b)) (some (.out true)) ((idx c.eh a).bind λ d=>
  sn b c b3 d)) (some (.go ()))
def sm(F:Nat)(a:c4)(b:Int)(c:Int):Option (Bool):=
 cT (α:=Unit) (sn c a F b) λ(_:Unit)=>
 some false
def u2(F:Nat)(c:Int)(a:c4):Nat->Int->Option (Int)
 |0,_=>none
 |b3+1,b=>
  (sm F (⟨a.gz,a.eh,a.Fields,a.Names,a.eE⟩:c4) c b).bind λ d=>
  cond (!d) ((idx a.eh b).bind λ e=>
  u2 F c a b3 e) (some b)
def xa(F:Nat)(b:c4)(c:Int)(d:Int):Option (Int):=
 fs (α:=Int) (u2 F d b F c) λ(a:Int)=>
 some a
def Oh:Option (List ap):=some [(⟨[79,98,106,101,99,116],[],[],[(⟨[109,97,105,110],true,[],(⟨0,[]⟩:Kind),2,0,[1,0,7,31,27],[]⟩:Method)]⟩:ap),(⟨[69,114,114,111,114],[79,98,106,101,99,116],[(⟨[99,111,100,101],(⟨1,[]⟩:Kind)⟩:Field)],[]⟩:ap)]
def rB(s_:List UInt8):Nat->Int->Option (Way (Bool) (Unit))
 |0,_=>none
 |b3+1,b=>
  cond (decide (b<(s_.length:Int))) ((idx s_ b).bind λ a=>
  cond (!(((((decide (97<=(a.toNat:Int)))&&(decide ((a.toNat:Int)<=122)))||((decide (65<=(a.toNat:Int)))&&(decide ((a.toNat:Int)<=90))))||((decide (48<=(a.toNat:Int)))&&(decide ((a.toNat:Int)<=57))))||(decide ((a.toNat:Int)=95)))) (some (.out false)) (rB s_ b3 (bj (b+1)))) (some (.go ()))
def na(F:Nat)(s_:List UInt8):Option (Bool):=
 cT (α:=Unit) (rB s_ F 0) λ(_:Unit)=>
 some ((decide (1<=(s_.length:Int)))&&(decide ((s_.length:Int)<=20)))
def tJ(F:Nat)(a:Kind):Option (Bool):=
 cond ((decide (a.Kind=1))||(decide (a.Kind=2))) (some (decide (a.ap=[]))) (cond ((decide (a.Kind=3))||(decide (a.Kind=4))) ((na F a.ap).bind λ b=>
 some b) (some false))
def yr(F:Nat)(a:ap):Nat->Int->Option (Way (Int) (Unit))
 |0,_=>none
 |f'+1,b=>
  cond (decide (b<(a.Fields.length:Int))) ((idx a.Fields b).bind λ c=>
  (na F c.Name).bind λ d=>
  cond (!d) (some (.out 1)) ((idx a.Fields b).bind λ Wr=>
  (tJ F (⟨Wr.Kind.Kind,Wr.Kind.ap⟩:Kind)).bind λ e=>
  cond (!e) (some (.out 7)) (yr F a f' (bj (b+1))))) (some (.go ()))
def tL(a:Int)(b:Int)(c:Int):Option (Bool):=some ((decide (b<=a))&&(decide (a<=c)))
def yK(F:Nat)(a:Method):Nat->Int->Option (Way (Int) (Unit))
 |0,_=>none
 |b3+1,b=>
  cond (decide (b<(a.b9.length:Int))) ((idx a.b9 b).bind λ c=>
  (tJ F c).bind λ d=>
  cond (!d) (some (.out 7)) (yK F a b3 (bj (b+1)))) (some (.go ()))
def yL(F:Nat)(a:Method):Nat->Int->Option (Way (Int) (Unit))
 |0,_=>none
 |f'+1,b=>
  cond (decide (b<(a.cj.length:Int))) ((idx a.cj b).bind λ FD=>
  (na F FD.ap).bind λ c=>
  cond (!c) (some (.out 1)) ((tL FD.From 0 200).bind λ d=>
  cond (!d) (some (.out 3)) ((tL FD.To 0 200).bind λ e=>
  cond (!e) (some (.out 3)) ((tL FD.dJ 0 200).bind λ f=>
  cond (!f) (some (.out 3)) (yL F a f' (bj (b+1))))))) (some (.go ()))
def yJ(F:Nat)(a:Method):Option (Int):=
 (na F a.Name).bind λ c=>
 cond (!c) (some 1) (cond (((decide (4<(a.b9.length:Int)))||(decide (200<(a.Code.length:Int))))||(decide (4<(a.cj.length:Int)))) (some 2) ((tL a.gh 0 10).bind λ d=>
 cond (!d) (some 3) ((tL a.gg 0 10).bind λ e=>
 cond (!e) (some 3) (cT (α:=Unit) (yK F a F 0) λ(_:Unit)=>
 (tJ F (⟨a.Returns.Kind,a.Returns.ap⟩:Kind)).bind λ b=>
 cond ((!b)&&((!decide (a.Returns.Kind=0))||(!decide (a.Returns.ap=[])))) (some 7) (cT (α:=Unit) (yL F a F 0) λ(_:Unit)=>
 some 0)))))
def yt(F:Nat)(a:ap):Nat->Int->Option (Way (Int) (Unit))
 |0,_=>none
 |iB+1,b=>
  cond (decide (b<(a.a1.length:Int))) ((idx a.a1 b).bind λ c=>
  (yJ F c).bind λ d=>
  cond (!decide (d=0)) (some (.out d)) (yt F a iB (bj (b+1)))) (some (.go ()))
def yu(F:Nat)(a:ap):Nat->Int->Option (Way (Int) (Unit))
 |0,_=>none
 |mC+1,b=>
  cond (decide (b<(a.Fields.length:Int))) ((idx a.Fields b).bind λ c=>
  (na F c.Name).bind λ d=>
  cond (!d) (some (.out 1)) ((idx a.Fields b).bind λ f=>
  (tJ F (⟨f.Kind.Kind,f.Kind.ap⟩:Kind)).bind λ e=>
  cond (!e) (some (.out 7)) (yu F a mC (bj (b+1))))) (some (.go ()))
def yv(F:Nat)(a:ap):Nat->Int->Option (Way (Int) (Unit))
 |0,_=>none
 |Ai+1,b=>
  cond (decide (b<(a.a1.length:Int))) ((idx a.a1 b).bind λ c=>
  (yJ F c).bind λ d=>
  cond (!decide (d=0)) (some (.out d)) (yv F a Ai (bj (b+1)))) (some (.go ()))
def yq(F:Nat)(b:List ap):Nat->Int->Option (Way (Int) (Unit))
 |0,_=>none
 |b3+1,c=>
  cond (decide (c<(b.length:Int))) (dj (α:=Unit) ((idx b c).bind λ a=>
  (na F a.Name).bind λ d=>
  cond (!d) (some (.out 1)) (cond (!decide (a.b_=[])) ((na F a.b_).bind λ e=>
  cond (!e) (some (.out 1)) (cond ((decide (6<(a.Fields.length:Int)))||(decide (8<(a.a1.length:Int)))) (some (.out 2)) (dj (α:=Unit) (yr F a F 0) λ(_:Unit)=>
  dj (α:=Unit) (yt F a F 0) λ(_:Unit)=>
  some (.go ())))) (cond ((decide (6<(a.Fields.length:Int)))||(decide (8<(a.a1.length:Int)))) (some (.out 2)) (dj (α:=Unit) (yu F a F 0) λ(_:Unit)=>
  dj (α:=Unit) (yv F a F 0) λ(_:Unit)=>
  some (.go ()))))) λ(_:Unit)=>
  yq F b b3 (bj (c+1))) (some (.go ()))
def Gl(F:Nat)(a:List ap):Option (Int):=
 cond (decide (10<(a.length:Int))) (some 2) (cT (α:=Unit) (yq F a F 0) λ(_:Unit)=>
 some 0)
def yM(b:List ap)(d:List UInt8):Nat->Int->Option (Way (Int) (Unit))
 |0,_=>none
 |b3+1,a=>
  cond (decide (a<(b.length:Int))) ((idx b a).bind λ c=>
  cond (decide (c.Name=d)) (some (.out a)) (yM b d b3 (bj (a+1)))) (some (.go ()))
def m'(F:Nat)(a:List ap)(b:List UInt8):Option (Int):=
 cT (α:=Unit) (yM a b F 0) λ(_:Unit)=>
 some (-1)
def tH(F:Nat)(a:List ap):Nat->Int->Option (Way (Int) (Unit))
 |0,_=>none
 |b3+1,sO=>
  cond (decide (sO<(a.length:Int))) ((idx a sO).bind λ b=>
  (m' F a b.Name).bind λ c=>
  cond (!decide (c=sO)) (some (.out 6)) (tH F a b3 (bj (sO+1)))) (some (.go ()))
def yD(a:List ap):Nat->Int->Option (Way (Int) (Unit))
 |0,_=>none
 |f'+1,b=>
  cond (decide (b<(a.length:Int))) ((idx a b).bind λ c=>
  (idx a b).bind λ d=>
  cond (!((decide (c.Name=[79,98,106,101,99,116]))==(decide (d.b_=[])))) (some (.out 4)) (yD a f' (bj (b+1)))) (some (.go ()))
def v3(F:Nat)(a:List ap):Nat->Int->Option (Way (Int) (Unit))
 |0,_=>none
 |iB+1,b=>
  cond (decide (b<(a.length:Int))) ((idx a b).bind λ c=>
  cond (!decide (c.b_=[])) ((idx a b).bind λ d=>
  (m' F a d.b_).bind λ e=>
  cond (decide (e<0)) (some (.out 5)) (v3 F a iB (bj (b+1)))) (v3 F a iB (bj (b+1)))) (some (.go ()))
def yQ(F:Nat)(a:List ap):Nat->Int->(List Int)->Option (Way (List Int) (List Int))
 |0,_,_=>none
 |b3+1,b,c=>
  cond (decide (0<=b)) (cond (decide ((a.length:Int)<(c.length:Int))) (some (.out [])) ((b2 8 [b] c).bind λ e=>
  (idx a b).bind λ f=>
  (m' F a f.b_).bind λ d=>
  yQ F a b3 d e)) (some (.go c))
def v9(F:Nat)(b:List ap)(c:Int):Option (List Int):=
 cT (α:=List Int) (yQ F b F c []) λ(a:List Int)=>
 some a
def yE(F:Nat)(a:List ap):Nat->Int->Option (Way (Int) (Unit))
 |0,_=>none
 |mC+1,b=>
  cond (decide (b<(a.length:Int))) ((v9 F a b).bind λ c=>
  cond (decide ((c.length:Int)=0)) (some (.out 4)) (yE F a mC (bj (b+1)))) (some (.go ()))
def rz(f:List ap)(a:List Int):Nat->(List Field)->Int->Option (List Field)
 |0,_,_=>none
 |b3+1,g,b=>
  cond (decide (b<(a.length:Int))) ((idx a b).bind λ c=>
  (idx f c).bind λ d=>
  (b2 40 g d.Fields).bind λ e=>
  rz f a b3 e (bj (b+1))) (some g)
def yp(F:Nat)(b:List ap)(c:Int):Option (List Field):=
 (v9 F b c).bind λ d=>
 fs (α:=List Field) (rz b d F [] 0) λ(a:List Field)=>
 some a
def v8(F:Nat)(a:List Kind)(c:List ap):Nat->Int->Option (Way (Bool) (Unit))
 |0,_=>none
 |b3+1,b=>
  cond (decide (b<(a.length:Int))) ((idx a b).bind λ d=>
  cond (!decide (d.ap=[])) ((idx a b).bind λ alC=>
  (m' F c alC.ap).bind λ e=>
  cond (decide (e<0)) (some (.out false)) (v8 F a c b3 (bj (b+1)))) (v8 F a c b3 (bj (b+1)))) (some (.go ()))
def yP(F:Nat)(a:List ap)(b:List Kind):Option (Bool):=
 cT (α:=Unit) (v8 F b a F 0) λ(_:Unit)=>
 some true
def yF(F:Nat)(a:List ap)(b:Int):Nat->Int->Option (Way (Int) (Unit))
 |0,_=>none
 |Kb+1,c=>
  (idx a b).bind λ d=>
  cond (decide (c<(d.Fields.length:Int))) ((idx a b).bind λ e=>
  (idx e.Fields c).bind λ g=>
  (yP F a [(⟨g.Kind.Kind,g.Kind.ap⟩:Kind)]).bind λ f=>
  cond (!f) (some (.out 5)) (yF F a b Kb (bj (c+1)))) (some (.go ()))
def yH(F:Nat)(e:List ap)(a:Method):Nat->Int->Option (Way (Int) (Unit))
 |0,_=>none
 |afN+1,b=>
  cond (decide (b<(a.cj.length:Int))) ((idx a.cj b).bind λ c=>
  (m' F e c.ap).bind λ d=>
  cond (decide (d<0)) (some (.out 5)) (yH F e a afN (bj (b+1)))) (some (.go ()))
def yG(F:Nat)(a:List ap)(c:Int):Nat->Int->Option (Way (Int) (Unit))
 |0,_=>none
 |afM+1,d=>
  (idx a c).bind λ e=>
  cond (decide (d<(e.a1.length:Int))) (dj (α:=Unit) ((idx a c).bind λ f=>
  (idx f.a1 d).bind λ b=>
  (yP F a b.b9).bind λ g=>
  cond (!g) (some (.out 5)) ((yP F a [(⟨b.Returns.Kind,b.Returns.ap⟩:Kind)]).bind λ h=>
  cond (!h) (some (.out 5)) (dj (α:=Unit) (yH F a b F 0) λ(_:Unit)=>
  some (.go ())))) λ(_:Unit)=>
  yG F a c afM (bj (d+1))) (some (.go ()))
def v5(F:Nat)(a:List ap):Nat->Int->Option (Way (Int) (Unit))
 |0,_=>none
 |Ai+1,b=>
  cond (decide (b<(a.length:Int))) (dj (α:=Unit) (dj (α:=Unit) (yF F a b F 0) λ(_:Unit)=>
  dj (α:=Unit) (yG F a b F 0) λ(_:Unit)=>
  some (.go ())) λ(_:Unit)=>
  v5 F a Ai (bj (b+1))) (some (.go ()))
def yx(a:List Field)(b:Int):Nat->Int->Option (Way (Int) (Unit))
 |0,_=>none
 |afF+1,c=>
  cond (decide (c<b)) ((idx a c).bind λ d=>
  (idx a b).bind λ e=>
  cond (decide (d.Name=e.Name)) (some (.out 6)) (yx a b afF (bj (c+1)))) (some (.go ()))
def yw(F:Nat)(a:List Field):Nat->Int->Option (Way (Int) (Unit))
 |0,_=>none
 |afE+1,b=>
  cond (decide (b<(a.length:Int))) (dj (α:=Unit) (dj (α:=Unit) (yx a b F 0) λ(_:Unit)=>
  some (.go ())) λ(_:Unit)=>
  yw F a afE (bj (b+1))) (some (.go ()))
def yz(a:ap)(b:Int):Nat->Int->Option (Way (Int) (Unit))
 |0,_=>none
 |afH+1,c=>
  cond (decide (c<b)) ((idx a.a1 c).bind λ d=>
  (idx a.a1 b).bind λ e=>
  cond (decide (d.Name=e.Name)) (some (.out 6)) (yz a b afH (bj (c+1)))) (some (.go ()))
def yy(F:Nat)(a:ap):Nat->Int->Option (Way (Int) (Unit))
 |0,_=>none
 |afG+1,b=>
  cond (decide (b<(a.a1.length:Int))) (dj (α:=Unit) (dj (α:=Unit) (yz a b F 0) λ(_:Unit)=>
  some (.go ())) λ(_:Unit)=>
  yy F a afG (bj (b+1))) (some (.go ()))
def yI(F:Nat)(a:List ap):Nat->Int->Option (Way (Int) (Unit))
 |0,_=>none
 |afO+1,b=>
  cond (decide (b<(a.length:Int))) (dj (α:=Unit) ((yp F a b).bind λ c=>
  dj (α:=Unit) (yw F c F 0) λ(_:Unit)=>
  (idx a b).bind λ d=>
  dj (α:=Unit) (yy F d F 0) λ(_:Unit)=>
  some (.go ())) λ(_:Unit)=>
  yI F a afO (bj (b+1))) (some (.go ()))
def tK(b:List Kind)(c:List Kind):Nat->Int->Option (Way (Bool) (Unit))
 |0,_=>none
 |b3+1,a=>
  cond (decide (a<(b.length:Int))) ((idx b a).bind λ d=>
  (idx c a).bind λ e=>
  cond (!decide (d=e)) (some (.out false)) (tK b c b3 (bj (a+1)))) (some (.go ()))
def Cs(F:Nat)(a:List Kind)(b:List Kind):Option (Bool):=
 cond (!decide ((a.length:Int)=(b.length:Int))) (some false) (cT (α:=Unit) (tK a b F 0) λ(_:Unit)=>
 some true)
def v0(F:Nat)(a:List ap)(f:Int)(d:List Int)(e:Int)(g:Int):Nat->Int->Option (Way (Int) (Unit))
 |0,_=>none
 |S3+1,Eo=>
  (idx d e).bind λ h=>
  (idx a h).bind λ i=>
  cond (decide (Eo<(i.a1.length:Int))) ((idx a f).bind λ j=>
  (idx j.a1 g).bind λ b=>
  (idx d e).bind λ k=>
  (idx a k).bind λ l=>
  (idx l.a1 Eo).bind λ c=>
  cond (decide (b.Name=c.Name)) (cond (b.Static||c.Static) (some (.out 4)) ((Cs F b.b9 c.b9).bind λ m=>
  cond (!m) (some (.out 4)) (cond (!decide ((⟨b.Returns.Kind,b.Returns.ap⟩:Kind)=(⟨c.Returns.Kind,c.Returns.ap⟩:Kind))) (some (.out 4)) (v0 F a f d e g S3 (bj (Eo+1)))))) (v0 F a f d e g S3 (bj (Eo+1)))) (some (.go ()))
def yC(F:Nat)(a:List ap)(b:Int)(e:List Int)(f:Int):Nat->Int->Option (Way (Int) (Unit))
 |0,_=>none
 |afK+1,c=>
  (idx a b).bind λ d=>
  cond (decide (c<(d.a1.length:Int))) (dj (α:=Unit) (dj (α:=Unit) (v0 F a b e f c F 0) λ(_:Unit)=>
  some (.go ())) λ(_:Unit)=>
  yC F a b e f afK (bj (c+1))) (some (.go ()))
def yB(F:Nat)(c:List ap)(d:Int)(a:List Int):Nat->Int->Option (Way (Int) (Unit))
 |0,_=>none
 |afJ+1,b=>
  cond (decide (b<(bj ((a.length:Int)-1)))) (dj (α:=Unit) (dj (α:=Unit) (yC F c d a b F 0) λ(_:Unit)=>
  some (.go ())) λ(_:Unit)=>
  yB F c d a afJ (bj (b+1))) (some (.go ()))
def yA(F:Nat)(a:List ap):Nat->Int->Option (Way (Int) (Unit))
 |0,_=>none
 |afI+1,b=>
  cond (decide (b<(a.length:Int))) (dj (α:=Unit) ((v9 F a b).bind λ c=>
  dj (α:=Unit) (yB F a b c F 0) λ(_:Unit)=>
  some (.go ())) λ(_:Unit)=>
  yA F a afI (bj (b+1))) (some (.go ()))
def Gm(F:Nat)(a:List ap):Option (Int):=
 (Gl F a).bind λ f=>
 cond (!decide (f=0)) (some f) (cT (α:=Unit) (tH F a F 0) λ(_:Unit)=>
 (m' F a [79,98,106,101,99,116]).bind λ b=>
 cond (decide (b<0)) (some 5) ((m' F a [69,114,114,111,114]).bind λ c=>
 cond (decide (c<0)) (some 5) (cT (α:=Unit) (yD a F 0) λ(_:Unit)=>
 cT (α:=Unit) (v3 F a F 0) λ(_:Unit)=>
 cT (α:=Unit) (yE F a F 0) λ(_:Unit)=>
 (m' F a [69,114,114,111,114]).bind λ g=>
 (yp F a g).bind λ h=>
 (idx a g).bind λ d=>
 cond ((!decide (d.b_=[79,98,106,101,99,116]))||(decide ((h.length:Int)=0))) (some 4) ((idx h 0).bind λ e=>
 cond (!decide (e.Kind.Kind=1)) (some 4) (cT (α:=Unit) (v5 F a F 0) λ(_:Unit)=>
 cT (α:=Unit) (yI F a F 0) λ(_:Unit)=>
 cT (α:=Unit) (yA F a F 0) λ(_:Unit)=>
 some 0)))))
def v7(b:List (List UInt8))(d:Method):Nat->Int->Option (Int)
 |0,_=>none
 |iB+1,a=>
  cond (decide (a<(b.length:Int))) ((idx b a).bind λ c=>
  cond (!decide (c=d.Name)) (v7 b d iB (bj (a+1))) (some a)) (some a)
def yO(F:Nat)(e:List ap)(b:List Int)(c:Int):Nat->(List Target)->(List (List UInt8))->Int->Option ((List Target)×(List (List UInt8)))
 |0,_,_,_=>none
 |f'+1,Kn,a,d=>
  (idx b c).bind λ f=>
  (idx e f).bind λ g=>
  cond (decide (d<(g.a1.length:Int))) (fs (α:=(List Target)×(List (List UInt8))) ((idx b c).bind λ h=>
  (idx e h).bind λ i=>
  (idx i.a1 d).bind λ r=>
  fs (α:=Int) (v7 a r F 0) λ(j:Int)=>
  fs (α:=(List Target)×(List (List UInt8))) (cond (decide (j=(a.length:Int))) ((b2 16 a [r.Name]).bind λ k=>
  (b2 16 Kn [(⟨0,0⟩:Target)]).bind λ l=>
  some (l,k)) (some (Kn,a))) λ((s,m):(List Target)×(List (List UInt8)))=>
  (idx b c).bind λ n=>
  (idx s j).bind λ t=>
  (some (s.set (j).toNat (⟨n,d⟩:Target))).bind λ o=>
  some (o,m)) λ((p,q):(List Target)×(List (List UInt8)))=>
  yO F e b c f' p q (bj (d+1))) (some (Kn,a))
def yN(F:Nat)(g:List ap)(a:List Int):Nat->(List Target)->(List (List UInt8))->Int->Option ((List Target)×(List (List UInt8)))
 |0,_,_,_=>none
 |b3+1,h,i,b=>
  cond (decide (b<(a.length:Int))) (fs (α:=(List Target)×(List (List UInt8))) (fs (α:=(List Target)×(List (List UInt8))) (yO F g a b F h i 0) λ((c,d):(List Target)×(List (List UInt8)))=>
  some (c,d)) λ((e,f):(List Target)×(List (List UInt8)))=>
  yN F g a b3 e f (bj (b+1))) (some (h,i))
def Gp(F:Nat)(c:List ap)(d:Int):Option ((List (List UInt8))×(List Target)):=
 (v9 F c d).bind λ e=>
 fs (α:=(List Target)×(List (List UInt8))) (yN F c e F [] [] 0) λ((a,b):(List Target)×(List (List UInt8)))=>
 some (b,a)
def rC(F:Nat)(a:List ap):Nat->(List (List Target))->(List (List (List UInt8)))->(List (List Field))->(List Int)->Int->Option (Way (c4×Int) ((List (List Target))×(List (List (List UInt8)))×(List (List Field))×(List Int)))
 |0,_,_,_,_,_=>none
 |b3+1,j,k,l,Tb,b=>
  cond (decide (b<(a.length:Int))) ((yp F a b).bind λ m=>
  (Gp F a b).bind λ c=>
  cond ((decide (12<(m.length:Int)))||(decide (16<(c.1.length:Int)))) (some (.out ((⟨[],[],[],[],[]⟩:c4),2))) ((idx a b).bind λ d=>
  (m' F a d.b_).bind λ e=>
  (b2 8 Tb [e]).bind λ f=>
  (b2 24 l [m]).bind λ g=>
  (b2 24 k [c.1]).bind λ h=>
  (b2 24 j [c.2]).bind λ i=>
  rC F a b3 i h g f (bj (b+1)))) (some (.go (j,k,l,Tb)))
def Om(F:Nat)(a:List ap):Option (c4×Int):=
 (Gm F a).bind λ f=>
 cond (!decide (f=0)) (some ((⟨[],[],[],[],[]⟩:c4),f)) (cT (α:=(List (List Target))×(List (List (List UInt8)))×(List (List Field))×(List Int)) (rC F a F [] [] [] [] 0) λ((b,c,d,e):(List (List Target))×(List (List (List UInt8)))×(List (List Field))×(List Int))=>
 some ((⟨a,e,d,c,b⟩:c4),0))
end ad
namespace Go.Proofs.YtifhjkbiiekamaaDoor
open Go Go.RowKit aA ad a8
@[reducible] def S4(F:Nat):g5 bf:=⟨[.p (.B 0),l7],[.c 74 [.l 37,.M 1,.l 3],.m 9 3],[.p (.R 2)],[.c 74 [.l 37,.M 1,.l 3],.m 9 3,.r 94 false],List ad.Field,
  λ d=>oW F ⟨d.2.1.1,d.2.2.1,d.2.1.2.2.1⟩ d.1.2.1,λ d r=>(((),()),((d.2.1.1,(),d.2.1.2.2.1,()),d.2.2.1,r,()))⟩
@[reducible] def S5(F:Nat):g5 bf:=⟨[.p (.B 0),l7],[.c 74 [.l 37,.M 1,.l 3],.m 9 3],[.p (.R 2),.p (.R 3)],[.c 74 [.l 37,.M 1,.l 3],.m 9 3,.r 9 false,.r 116 false],List (List UInt8)×List ad.Target,
  λ d=>u3 F ⟨d.2.1.1,d.2.2.1,d.2.1.2.2.1⟩ d.1.2.1,λ d r=>(((),(),()),((d.2.1.1,(),d.2.1.2.2.1,()),d.2.2.1,r.1,r.2,()))⟩
def yf(F:Nat):dz bd:=⟨(29,(S4 F).run bd)::(28,(S5 F).run bd)::W_.ce,[]⟩
open Go Go.RowKit aA
set_option maxHeartbeats 4000000
set_option maxRecDepth 20000
theorem O7{W:World}{X:List Nat}{F:Nat}{c:ad.a4}{t:Int}{r:List Int}{l:Nat}{e3:im}{fv:Nat}{m:Nat}{g:im}{j:Nat}{ar:List Nat}(d:a9 W ar X W [] [bc.ho l [.q e3 fv c.l,.map (some m),.q g j c.cL],b4 ad.ji e3 fv c.l,bc.map ka (Value.int .i64) m c.bC,b4 (fr .i64) g j c.cL])(h:ad.nG F c t=some r) :
 Calls Tryd.prog 50 [.cy l,.i t].toArray W (λ e w'=>∃G:Option Addr,∃H:Nat,∃I:List Value,e= .returned (.q G H r)/\a9 W ar X w' [aU.row 3 1 (.q G H r) r I] [bc.rows (fr .i64) I r]):=by
 refine enter Tryd.func50 rfl Tryd.ntmps50 rfl λ a b=>?_;rw[ad.nG]at h;refine ub [] [] b λ a b=>ub [] [(5,.slice none 0 0)] b λ a b=>wp_seq_k λ K P=>?_;have d:=d.Er (α:=Int) 3 1;have d:=d.more (y:=bc.rows (fr .i64) [] []) rfl;obtain⟨u,h,v⟩:=ad.fF h
 refine O5 (λ a w=>∃(p:im)(q:Nat)(k:yk)(s:oc),Fr ⟨20,[]⟩ [(5,.q p q k)] a/\a9 W ar X w [aU.row 3 1 (.q p q k) k s] [bc.rows (fr .i64) s k,bc.ho l [.q e3 fv c.l,.map (some m),.q g j c.cL],b4 ad.ji e3 fv c.l,bc.map ka (Value.int .i64) m c.bC,b4 (fr .i64) g j c.cL]/\u=k) (λ K Q=>?_) ?_
 ·clear v;refine O8 (λ(J:Nat) a w=>∃(n:im)(o:Nat)(i:yk)(B1:oc)(f:Int),Fr ⟨20,[]⟩ [(0,.cy l),(1,.i f),(5,.q n o i)] a/\a9 W ar X w [aU.row 3 1 (.q n o i) i B1] [bc.rows (fr .i64) B1 i,bc.ho l [.q e3 fv c.l,.map (some m),.q g j c.cL],b4 ad.ji e3 fv c.l,bc.map ka (Value.int .i64) m c.bC,b4 (fr .i64) g j c.cL]/\ad.nH c J i f=some u) F ⟨none,0,[],[],t,b.cut,d,h⟩ ?_ ?_;rintro a w ⟨n,o,i,B1,f,b,d,h⟩;exact absurd h (by simp[ad.nH]);rintro J a w ⟨n,o,i,B1,f,b,d,h⟩ K R;rw[ad.nH]at h;refine wp_seq_k λ K S=>ub [] [(7,.bool (decide (0<=f)))] b λ a b=>GK (b.g rfl) h (λ x h=>?_) (λ x h=>?_);refine wp_skip<|S _ _<|wp_seq_k λ K U=>wp_block<|mf<|jY 2 [] [(15,.q n o i),(16,.i f)] b λ a b=>ah3 (cs:=[.i f]) wn (x7 (vs:=[(0,.i f)]) Tryd.underlying24 Tryd.sizeOf3 Tryd.zeroValue3 rfl rfl rfl ⟨⟨(b.g rfl),rfl⟩,trivial⟩ (by kernel_rfl)) b d rfl rfl λ a V w _ b d=>?_;obtain⟨L,z,h⟩:=ad.fF h;refine Fa (T:=(fr .i64)) (ml:=[f]) 1 0 0 d rfl rfl rfl Tryd.underlying24 afp rfl rfl z rfl rfl ⟨_,_,rfl,rfl,rfl⟩ wn rfl (b.g rfl) (b.g rfl) b rfl rfl λ a M N A w b d=>?_;refine jY 1 [] [(5,.q M N L)] b λ a b=>wpList_nil (U _ _ ?_);refine mf<|ou 5 [0,2] [(11,.q g j c.cL),(12,.i f)] [l,2] (fL (d.d 2 rfl).2.2 gv) b λ a b=>?_;obtain⟨O,B,h⟩:=ad.fF h;obtain⟨C,D,_,rfl,E⟩:=vr _ (d.d 5 rfl) B;refine mY wn (m3 Tryd.underlying24 Tryd.sizeOf3 rfl (b.g rfl) (b.g rfl) C D) b rfl rfl λ a b=>ou 2 [0,0] [(1,.i O)] [c2 g,fp g+(f).toNat*1] (fL E gv) b λ a b=>wpList_nil ?_;exact R _ _ ⟨M,N,L,A,O,b.cut,d.eI [0,2,3,4,5],h⟩;refine wp_exit<|rb (rb (B0 ?_));exact Q _ _ ⟨n,o,i,B1,b.cut,d,(os h)⟩
 rintro a w ⟨p,q,k,s,b,d,Y⟩;subst u;have h:=v;clear v;refine P _ _<|Fi [] [(4,.q p q k)] b λ a b=>wp_ret ?_;obtain rfl:=cf h;refine EW Tryd.results50 b rfl ?_;exact⟨p,q,s,rfl,d.o' [0] [0]⟩
theorem O9{W:World}{X:List Nat}{s_:List Int}{r:Unit}{c:im}{d:Nat}{ar:List Nat}(f:a9 W ar X W [] [b4 (fr .i64) c d s_])(h:ad.Bg s_=some r) :
 Calls Tryd.prog 52 [.q c d s_].toArray W (λ e w'=>∃g:Nat,e= .returned (.func (.func 69) #[] #[.cy g])/\a9 W ar X w' [aU.c8 g 24 [.q c d s_]] []):=by
 refine enter Tryd.func52 rfl Tryd.ntmps52 rfl λ a b=>?_;clear h;refine wp_seq_k λ K j=>mf<|sQ (cs:=[.q c d s_]) wn (FZ rfl rfl (b.g rfl)) b f rfl rfl λ a i w _ b f=>jY 1 [] [] b λ a b=>wpList_nil (j _ _ ?_);refine Fi [] [(2,.func (.func 69) #[] #[.cy i])] b λ a b=>wp_ret<|EW Tryd.results52 b rfl ?_;exact⟨i,rfl,f.o' [0] []⟩
theorem O6:Oc Tryd.prog 69:=by
 intro p f A c ez L w0 n hy o;refine aaL (vs:=[.func (.yield L) #[] #[],.cy ez]) Tryd.func69 rfl Tryd.ntmps69 rfl (by rintro w ⟨⟨v,h⟩,_⟩;cases h) ?_;intro a b;obtain⟨W,ar,X,E,g⟩:=n _ _ o;have i:f.length<=maxLen:=by
  obtain⟨M,N,O,al,aL,_⟩:=(g.d 1 rfl:(cM (fr .i64)).rd _ _ _ _)
  omega
 refine kn ?_;intro K q;refine l2 (by kernel_rfl) ?_;refine hg 4 [0,1,3] [0,0] (fr':=[(0,.func (.yield L) #[] #[]),(1,.cy ez),(3,.i (ad.bj ((f.length:Int)-1)))]) (L:=[ez,0]) nr (fL (g.d 0 rfl).2.2 gv) b (by kernel_rfl) ?_;intro a b;rw[VR i]at b;refine wpList_nil ?_;refine q _ _ ?_;refine Ni ?_;refine V5 (λ k a w=>∃(rem:yk),k=rem.length+1/\(∃pre,f=rem.reverse++pre)/\Fr ⟨19,[]⟩ [(0,.func (.yield L) #[] #[]),(1,.cy ez),(3,.i ((rem.length:Int)-1))] a/\p rem w) (f.length+1) ⟨f.reverse,by simp,⟨[],by simp⟩,by rw[jJ];exact b,o⟩ (by rintro a w ⟨rem,h,_⟩;omega) ?_;rintro k a w ⟨rem,l,⟨pre,j⟩,b,d⟩ K s;refine kn ?_;intro t u;refine kn ?_;intro y z;refine l2 (by kernel_rfl) ?_;refine hg 2 [0,1,3,8] [] (fr':=[(0,.func (.yield L) #[] #[]),(1,.cy ez),(3,.i ((rem.length:Int)-1)),(8,.bool (decide (0<=(rem.length:Int)-1)))]) (L:=[]) nr gv b (by kernel_rfl) ?_;intro a b;refine wpList_nil ?_;refine z _ _ ?_;refine Nk (b.g rfl) (λ ag=>?_) (λ ag=>?_)
 ·have ag:=of_decide_eq_true ag;match rem,ag,j,b,d,l with
  |x::rem,_,j,b,d,l=>
  have B:=afg j;have e:((x::rem).length:Int)-1=(rem.length:Int):=by simp
  rw[e]at b;refine FC ?_;refine u _ _ ?_;refine kn ?_;intro C D;refine Ni ?_;refine kn ?_;intro F G;refine alw λ H=>?_;refine agU 6 (by kernel_rfl) ?_;obtain⟨W,ar,X,E,g⟩:=n _ _ d;refine hg 4 [0,1,3,11,12,13,14] [0,0] (fr':=[(0,.func (.yield L) #[] #[]),(1,.cy ez),(3,.i (rem.length:Int)),(11,.func (.yield L) #[] #[]),(12,.i (rem.length:Int)),(13,.q A c f),(14,.i (rem.length:Int))]) (L:=[ez,0]) nr (fL (g.d 0 rfl).2.2 gv) b (by kernel_rfl) ?_;intro a b;obtain⟨I,hi,_,rfl,hc⟩:=vr _ (g.d 1 rfl) B;refine mY wn (m3 Tryd.underlying24 Tryd.sizeOf3 rfl (b.g rfl) (b.g rfl) I hi) b rfl rfl ?_;intro a b;refine hg 1 [0,1,3,11,12,16] [0,0] (fr':=[(0,.func (.yield L) #[] #[]),(1,.cy ez),(3,.i (rem.length:Int)),(11,.func (.yield L) #[] #[]),(12,.i (rem.length:Int)),(16,.i x)]) (L:=[c2 A,fp A+(rem.length:Int).toNat*1]) nr (fL hc gv) b (by kernel_rfl) ?_;intro a b;refine wpList_nil ?_;refine ans (vs:=[.i (rem.length:Int),.i x]) wn rfl (b.g rfl) ⟨b.g rfl,b.g rfl,trivial⟩ (hy x rem _ d) b rfl rfl ?_;rintro _ w ⟨rfl,d⟩;refine⟨_,rfl,λ a b=>?_⟩;refine D6 H (by kernel_rfl) ?_;refine hg 1 [0,1,3,18] [] (fr':=[(0,.func (.yield L) #[] #[]),(1,.cy ez),(3,.i (rem.length:Int)),(18,.bool false)]) (L:=[]) nr gv b (by kernel_rfl) ?_;intro a b;refine wpList_nil ?_;refine G _ _ ?_;refine alv (b.g rfl) rfl ?_;refine FC ?_;refine D _ _ ?_;refine l2 (by kernel_rfl) ?_;refine hg 3 [0,1,3] [] (fr':=[(0,.func (.yield L) #[] #[]),(1,.cy ez),(3,.i (ad.bj ((rem.length:Int)-1)))]) (L:=[]) nr gv b (by kernel_rfl) ?_;intro a b;have m:rem.length<=maxLen:=by have:=congrArg List.length j;simp at this;omega
  rw[VR m]at b;refine wpList_nil ?_;exact s _ _ ⟨rem,by simpa using l,⟨x::pre,by rw[j];simp⟩,b,d⟩
 ·have ag:=of_decide_eq_false ag
  have J:rem=[]:=by
   cases rem with
   |nil=>rfl
   |cons x r=>exact absurd ag (by simp)
  subst J;refine Nl ?_;refine rb ?_;refine rb ?_;refine B0 ?_;refine YT ?_;refine ajI Tryd.results69 b ?_;exact⟨⟨_,rfl⟩,d⟩
theorem Zc{W:World}{X:List Nat}{F:Nat}{g:ad.a4}{x:Int}{r:List ad.Field}{p:Nat}{e3:im}{fv:Nat}{z:Nat}{B:im}{C:Nat}{ar:List Nat}(f:a9 W ar X W [] [bc.ho p [.q e3 fv g.l,.map (some z),.q B C g.cL],b4 ad.ji e3 fv g.l,bc.map ka (Value.int .i64) z g.bC,b4 (fr .i64) B C g.cL])(h:ad.oW F g x=some r) :
 Calls Tryd.prog 29 [.cy p,.i x].toArray W (λ e w'=>∃N3:Option Addr,∃O3:Nat,∃WL:List Value,e= .returned (.q N3 O3 r)/\a9 W ar X w' [aU.row 94 3 (.q N3 O3 r) r WL] [bc.rows ad.jj WL r]):=by
 refine Qg Tryd.func29 rfl Tryd.ntmps29 rfl λ a d=>?_;rw[ad.oW]at h;refine wp_seq_k λ K pR=>mf<|sQ (cs:=[.cy p]) wn (FZ rfl rfl (d.g rfl)) d f rfl rfl λ a u w _ d f=>jY 1 [] [] d λ a d=>wpList_nil (pR _ _ ?_);refine wp_seq_k λ K pS=>mf<|sQ (cs:=[.slice none 0 0]) wn (rf Tryd.zeroValue34 rfl rfl) d f rfl rfl λ a gn w _ d f=>wpList_nil<|pS _ _<|wp_seq_k λ K pT=>wp_seq_k λ K pU=>mf ?_
 refine ou 2 [0,0] [(8,.cy p),(9,.i x)] [u,0] (fL (iP (f.e 1 rfl)) gv) d λ a d=>?_;obtain⟨D,H,h⟩:=ad.fF h;have hc:=f;refine Bc (vs:=[.cy p,.i x]) wn rfl Tryd.call50 ⟨(d.g rfl),(d.g rfl),trivial⟩ (O7 ((hc.into 0).pick ⟨⟨0,rfl⟩,⟨1,rfl⟩,⟨2,rfl⟩,⟨3,rfl⟩,trivial⟩) H) d rfl rfl ?_;rintro _ w ⟨E,G,aos,rfl,s⟩;refine⟨_,rfl,λ a d=>?_⟩;have f:=hc.back 0 s;clear s hc;obtain⟨aiY,I,h⟩:=ad.fF h;have hc:=f;have au:=hc.freeze 0 0 rfl rfl
 refine Bc (vs:=[.q E G D]) wn rfl Tryd.call52 ⟨(d.g rfl),trivial⟩ (O9 ((au.into 0).pick ⟨⟨0,rfl⟩,trivial⟩) I) d rfl rfl ?_;rintro _ w ⟨Rn,rfl,s⟩;refine⟨_,rfl,λ a d=>?_⟩;have l:aY [] _ w:=s.bM;have f:=hc.fk 0 (by exact trivial) s;clear s hc au;clear l;refine wpList_nil ?_;have d:=d.cut (l':=[(2,.cy u),(5,.cy gn),(11,.func (.func 69) #[] #[.cy Rn])]);refine pU _ _<|wp_block ?_;have f:=f.freeze 1 0 rfl rfl;have f:=f.Ri 0 rfl;have f:=f.Er (α:=ad.Field) 94 3
 have f:=f.more (y:=bc.rows ad.jj [] []) rfl;obtain⟨J,M,h⟩:=ad.fF h
 refine O4 (c:=G) (A:=E) (β:=(Option Addr)×(Nat)×(List ad.Field)×(List Value)) (l1:=λ _ t=>[(2,.cy u),(5,.cy gn),(7,.i t)]) (λ((n,o,j,q):(Option Addr)×(Nat)×(List ad.Field)×(List Value))=>[aU.row 94 3 (.q n o j) j q,aU.c8 gn 34 [.q n o j],aU.c8 u 70 [.cy p]]) (λ((n,o,j,q):(Option Addr)×(Nat)×(List ad.Field)×(List Value))=>[bc.rows ad.jj q j,bc.ho Rn [.q E G D],b4 (fr .i64) E G D,bc.ho p [.q e3 fv g.l,.map (some z),.q B C g.cL],b4 ad.ji e3 fv g.l,bc.map ka (Value.int .i64) z g.bC,b4 (fr .i64) B C g.cL]) (λ(E2:yk)((n,o,j,q):(Option Addr)×(Nat)×(List ad.Field)×(List Value))=>ad.sp g E2 j=some J) D (none,0,[],[]) 1 2 O6 Tryd.call69 d rfl rfl rfl (f.eI [0,1,2,4,5,6,7]) M (λ b=>by obtain⟨_,_,_,_⟩:=b;rfl) (λ b=>by obtain⟨_,_,_,_⟩:=b;rfl) ?_ ?_ ?_
 ·clear h M f d;intro L N t w a K d O;refine l2 (by kernel_rfl)<|jY 1 [] [(7,.i t)] d λ a d=>wpList_nil ?_;exact O _ d.cut
 ·clear h M f d;intro L cW hb bg cm b N t E2 w a K h d f O;obtain⟨n,o,j,q⟩:=b;dsimp only at h f;rw[ad.sp]at h;refine Ni<|V4 (m:=11) 9 (aY []) (by kernel_rfl) rfl (by kernel_rfl) λ w l=>?_;have f:=f.ep l;clear l;have i:=f;have k:=aY.refl [] w;refine dr [0,1,2,3,4,5] 6 [0,0,1,0,2,0] [(14,.q n o j),(18,.q e3 fv g.l),(19,.i t)] [p,0,u,0,gn,0] (λ bV l=>(fL (wE l (iP (i.e 3 rfl))) (fL (wE l (iP (i.e 4 rfl))) (fL (wE l (i.d 3 rfl).2.2) gv)))) d k λ a d=>?_;obtain⟨v,P,h⟩:=ad.fF h;obtain⟨Q,R,_,⟨S,U,NY,O1,rfl,R7,R8⟩,V⟩:=vr _ (i.d 4 rfl) P;have i:=i.more (y:=b4 ad.jj S U v.Fields) R7;have f:=f.more (y:=b4 ad.jj S U v.Fields) R7;have i:=i.more (y:=b4 ad.mZ NY O1 v.a1) R8;have f:=f.more (y:=b4 ad.mZ NY O1 v.a1) R8;refine YI 6 rfl (by kernel_rfl) wn (λ bV=>m3 Tryd.underlying22 Tryd.sizeOf37 rfl (d.g rfl) (d.g rfl) Q R) k d rfl rfl λ a d=>?_;refine dr [7,8] 2 [0,2] [(22,.q S U v.Fields)] [c2 e3,fp e3+(t).toNat*4+2] (λ bV l=>(fL (wE l V) gv)) d k λ a d=>jW 9 rfl (by kernel_rfl) (λ _=>k) ?_;obtain⟨D1,Y,h⟩:=ad.fF h;refine akz (T:=ad.jj) 2 2 1 f rfl rfl rfl Tryd.underlying34 afq rfl rfl Y rfl wn rfl (d.g rfl) (d.g rfl) d rfl rfl λ a N2 O2 Z w d f=>h9 ?_;clear i k;have i:=f;have k:=aY.refl [] w;refine er.next 10 (aY [] w) (by kernel_rfl)<|jW 10 rfl (by kernel_rfl) (λ _=>k) ?_;refine q1 (vs:=[.q N2 O2 D1]) 3 f rfl wn rfl Tryd.sizeOf34 rfl rfl rfl rfl (d.g rfl) (d.g rfl) rfl λ w f=>h9 ?_;clear i k;have i:=f;have k:=aY.refl [] w;refine er.next 11 (aY [] w) (by kernel_rfl)<|Cv (by kernel_rfl) ?_ (λ _=>k);clear i k;have d:=d.cut (l':=[]);exact O (N2,O2,D1,Z) _ _ h (f.eI [0,4,5,6,7,8,9])
 clear f d;intro anP b a w Jo d f;obtain⟨n,o,j,q⟩:=b;dsimp only at Jo f;rw[ad.sp]at Jo;obtain rfl:=cf Jo;have d:=d.cut (l':=[(5,.cy gn)]);refine pT _ _<|wp_seq_k λ K pV=>rg [0,0] [(4,.q n o j)] [gn,0] (fL (iP (f.e 2 rfl)) gv) d λ a d=>pV _ _<|wp_ret ?_;obtain rfl:=cf h;refine ahe 0 Tryd.results29 d f rfl rfl λ w f=>?_;exact⟨n,o,q,rfl,f.o' [1] [0]⟩
set_option maxHeartbeats 4000000
set_option maxRecDepth 20000
theorem Zg{W:World}{X:List Nat}{F:Nat}{s_:List (List UInt8)}{g:List UInt8}{r:Int}{f:im}{i:Nat}{ar:List Nat}(d:a9 W ar X W [] [b4 km f i s_])(h:ad.Bp F s_ g=some r) :
 Calls Tryd.prog 53 [.q f i s_,bQ g].toArray W (λ e w'=>e= .returned (.i r)/\a9 W ar X w' [] []):=by
 refine enter Tryd.func53 rfl Tryd.ntmps53 rfl λ a b=>?_;rw[ad.Bp]at h;refine ub [] [] b λ a b=>wp_seq_k λ K t=>ub [] [(7,.i (s_.length:Int)),(8,.i 0)] b λ a b=>?_;obtain⟨j,h,k⟩:=ad.akB h;refine O5 (λ a w=>Fr ⟨19,[]⟩ [] a/\a9 W ar X w [] [b4 km f i s_]/\j=(.go ())) (λ K u=>?_) ?_
 ·refine O8 (λ(s:Nat) a w=>∃(c:Int),Fr ⟨19,[]⟩ [(0,.q f i s_),(1,bQ g),(7,.i (s_.length:Int)),(8,.i c)] a/\a9 W ar X w [] [b4 km f i s_]/\ad.tj s_ g s c=some j) F ⟨0,b.cut,d,h⟩ ?_ ?_;rintro a w ⟨c,b,d,h⟩;exact absurd h (by simp[ad.tj]);rintro s a w ⟨c,b,d,h⟩ K v;rw[ad.tj]at h;refine ub [] [(9,.bool (decide (c<(s_.length:Int))))] b λ a b=>wp_seq_k λ K x=>GK (b.g rfl) h (λ l h=>?_) (λ l h=>?_);refine wp_skip<|x _ _<|wp_seq_k λ K y=>wp_block<|ub [] [(5,.i c)] b λ a b=>wp_seq_k λ K z=>mf<|jY 3 [] [(11,bQ g),(12,.q f i s_),(13,.i c)] b λ a b=>?_;obtain⟨A,m,h⟩:=ad.fF h;obtain⟨n,o,_,rfl,p⟩:=vr _ (d.d 0 rfl) m;refine mY wn (m3 Tryd.underlying77 Tryd.sizeOf9 rfl (b.g rfl) (b.g rfl) n o) b rfl rfl λ a b=>ou 2 [0,0] [(16,.bool (decide (g=A)))] [c2 f,fp f+(c).toNat*1] (fL p gv) b λ a b=>wpList_nil (z _ _ ?_);refine GK (b.g rfl) h (λ q h=>?_) (λ q h=>?_);refine Fi [] [(4,.i c)] b λ a b=>wp_ret ?_;obtain rfl:=cf h;obtain rfl:=cf k;refine WJ (FM (FM (WJ (FM (FM ?_)))));refine EW Tryd.results53 b rfl ?_;exact⟨rfl,d.o' [] []⟩;refine wp_skip<|y _ _<|ZN [] [(8,.i (ad.bj (c+1)))] b λ a b=>?_;exact v _ _ ⟨ad.bj (c+1),b.cut,d,h⟩;refine wp_exit<|rb (rb (B0 ?_));exact u _ _ ⟨b.cut,d,(os h)⟩
 rintro a w ⟨b,d,B⟩;subst j;have h:=k;clear k;dsimp only[ad.Pl]at h;refine t _ _<|Fi [] [(4,.i (-1))] b λ a b=>wp_ret ?_;obtain rfl:=cf h;refine EW Tryd.results53 b rfl ?_;exact⟨rfl,d.o' [] []⟩
theorem Zd{W:World}{X:List Nat}{F:Nat}{j:ad.a4}{e0:Int}{r:(List (List UInt8))×(List ad.Target)}{s:Nat}{e3:im}{fv:Nat}{v:Nat}{z:im}{B:Nat}{ar:List Nat}(f:a9 W ar X W [] [bc.ho s [.q e3 fv j.l,.map (some v),.q z B j.cL],b4 ad.ji e3 fv j.l,bc.map ka (Value.int .i64) v j.bC,b4 (fr .i64) z B j.cL])(h:ad.u3 F j e0=some r) :
 Calls Tryd.prog 28 [.cy s,.i e0].toArray W (λ e w'=>∃N0:Option Addr,∃OZ:Nat,∃WN:List Value,∃N1:Option Addr,∃O0:Nat,∃WO:List Value,e= .returned (.tuple #[.q N0 OZ r.1,.q N1 O0 r.2])/\a9 W ar X w' [aU.row 9 1 (.q N0 OZ r.1) r.1 WN,aU.row 116 2 (.q N1 O0 r.2) r.2 WO] [bc.rows km WN r.1,bc.rows ad.m0 WO r.2]):=by
 refine Qg Tryd.func28 rfl Tryd.ntmps28 rfl λ a d=>?_;rw[ad.u3]at h;refine wp_seq_k λ K pR=>mf<|sQ (cs:=[.cy s]) wn (FZ rfl rfl (d.g rfl)) d f rfl rfl λ a P w _ d f=>jY 2 [] [] d λ a d=>wpList_nil (pR _ _ ?_);refine wp_seq_k λ K pS=>mf<|sQ (cs:=[.slice none 0 0]) wn (rf Tryd.zeroValue77 rfl rfl) d f rfl rfl λ a gn w _ d f=>wpList_nil<|pS _ _<|wp_seq_k λ K pT=>mf<|sQ (cs:=[.slice none 0 0]) wn (rf Tryd.zeroValue78 rfl rfl) d f rfl rfl λ a q w _ d f=>wpList_nil ?_
 refine pT _ _<|wp_seq_k λ K pU=>wp_seq_k λ K pV=>mf<|ou 2 [0,0] [(14,.cy s),(15,.i e0)] [P,0] (fL (iP (f.e 2 rfl)) gv) d λ a d=>?_;obtain⟨C,aev,h⟩:=ad.fF h;have hc:=f;refine Bc (vs:=[.cy s,.i e0]) wn rfl Tryd.call50 ⟨(d.g rfl),(d.g rfl),trivial⟩ (O7 ((hc.into 0).pick ⟨⟨0,rfl⟩,⟨1,rfl⟩,⟨2,rfl⟩,⟨3,rfl⟩,trivial⟩) aev) d rfl rfl ?_;rintro _ w ⟨D,E,aot,rfl,N⟩;refine⟨_,rfl,λ a d=>?_⟩;have f:=hc.back 0 N;clear N hc;obtain⟨hz,aex,h⟩:=ad.fF h;have hc:=f
 have au:=hc.freeze 0 0 rfl rfl;refine Bc (vs:=[.q D E C]) wn rfl Tryd.call52 ⟨(d.g rfl),trivial⟩ (O9 ((au.into 0).pick ⟨⟨0,rfl⟩,trivial⟩) aex) d rfl rfl ?_;rintro _ w ⟨wJ,rfl,N⟩;refine⟨_,rfl,λ a d=>?_⟩;have i:aY [] _ w:=N.bM;have f:=hc.fk 0 (by exact trivial) N;clear N hc au;clear i;refine wpList_nil ?_;have d:=d.cut (l':=[(2,.cy P),(6,.cy gn),(7,.cy q),(17,.func (.func 69) #[] #[.cy wJ])]);refine pV _ _<|wp_block ?_;have f:=f.freeze 1 0 rfl rfl
 have f:=f.Ri 0 rfl;have f:=f.Er (α:=ad.Target) 116 2;have f:=f.more (y:=bc.rows ad.m0 [] []) rfl;have f:=f.Er (α:=List UInt8) 9 1;have f:=f.more (y:=bc.rows km [] []) rfl;obtain⟨afA,Jl,h⟩:=ad.fF h
 refine O4 (c:=E) (A:=D) (β:=(Option Addr)×(Nat)×(List (List UInt8))×(List Value)×(Option Addr)×(Nat)×(List ad.Target)×(List Value)) (l1:=λ _ n=>[(2,.cy P),(6,.cy gn),(7,.cy q),(9,.i n)]) (λ((Q,R,G,V,S,U,H,Y):(Option Addr)×(Nat)×(List (List UInt8))×(List Value)×(Option Addr)×(Nat)×(List ad.Target)×(List Value))=>[aU.row 9 1 (.q Q R G) G V,aU.row 116 2 (.q S U H) H Y,aU.c8 q 78 [.q S U H],aU.c8 gn 77 [.q Q R G],aU.c8 P 70 [.cy s]]) (λ((Q,R,G,V,S,U,H,Y):(Option Addr)×(Nat)×(List (List UInt8))×(List Value)×(Option Addr)×(Nat)×(List ad.Target)×(List Value))=>[bc.rows km V G,bc.rows ad.m0 Y H,bc.ho wJ [.q D E C],b4 (fr .i64) D E C,bc.ho s [.q e3 fv j.l,.map (some v),.q z B j.cL],b4 ad.ji e3 fv j.l,bc.map ka (Value.int .i64) v j.bC,b4 (fr .i64) z B j.cL]) (λ(E3:yk)((Q,R,G,V,S,U,H,Y):(Option Addr)×(Nat)×(List (List UInt8))×(List Value)×(Option Addr)×(Nat)×(List ad.Target)×(List Value))=>ad.su F j E3 G H=some afA) C (none,0,[],[],none,0,[],[]) 2 3 O6 Tryd.call69 d rfl rfl rfl (f.eI [0,0,2,3,5,6,7,8]) Jl (λ b=>by obtain⟨_,_,_,_,_,_,_,_⟩:=b;rfl) (λ b=>by obtain⟨_,_,_,_,_,_,_,_⟩:=b;rfl) ?_ ?_ ?_
 ·clear h Jl f d;intro L aff n w a K d bX;refine l2 (by kernel_rfl)<|jY 1 [] [(9,.i n)] d λ a d=>wpList_nil ?_;exact bX _ d.cut
 ·clear h Jl f d;intro L cW hb bg cm b aff n E3 w a K h d f bX;obtain⟨Q,R,G,V,S,U,H,Y⟩:=b;dsimp only at h f;rw[ad.su]at h;obtain⟨S1,h,Ji⟩:=ad.fF h;refine Nj (λ a w=>∃(B_:im)(CC:Nat)(qx:List (List UInt8))(FQ:oc)(Ca:im)(CD:Nat)(qy:List ad.Target)(FR:oc),Fr ⟨59,[]⟩ [] a/\a9 W ar X w [aU.obj cW hb,aU.obj bg cm,aU.row 9 1 (.q B_ CC qx) qx FQ,aU.row 116 2 (.q Ca CD qy) qy FR,aU.c8 q 78 [.q Ca CD qy],aU.c8 gn 77 [.q B_ CC qx],aU.c8 P 70 [.cy s]] [bc.rows km FQ qx,bc.rows ad.m0 FR qy,bc.ho wJ [.q D E C],b4 (fr .i64) D E C,bc.ho s [.q e3 fv j.l,.map (some v),.q z B j.cL],b4 ad.ji e3 fv j.l,bc.map ka (Value.int .i64) v j.bC,b4 (fr .i64) z B j.cL]/\S1=(qx,qy)) (λ K IU=>?_) ?_
  ·clear Ji;refine kn λ K IV=>l2 (by kernel_rfl)<|ou 5 [0,0,1,0] [(23,.q e3 fv j.l),(24,.i n)] [s,0,P,0] (fL (iP (f.e 6 rfl)) (fL (f.d 4 rfl).2.2 gv)) d λ a d=>?_;obtain⟨p,ae_,h⟩:=ad.fF h;obtain⟨acm,adK,_,⟨Cb,CE,t,mc,rfl,adj,adk⟩,ac9⟩:=vr _ (f.d 5 rfl) ae_;have f:=f.more (y:=b4 ad.jj Cb CE p.Fields) adj;have f:=f.more (y:=b4 ad.mZ t mc p.a1) adk;refine mY wn (m3 Tryd.underlying22 Tryd.sizeOf37 rfl (d.g rfl) (d.g rfl) acm adK) d rfl rfl λ a d=>?_;refine ou 4 [0,3] [(27,.q t mc p.a1),(28,.i (p.a1.length:Int)),(29,.i 0)] [c2 e3,fp e3+(n).toNat*4+3] (fL ac9 gv) d λ a d=>wpList_nil (IV _ _ ?_);obtain⟨Ka,h,Jj⟩:=ad.fF h;refine Nj (λ a w=>∃(Cc:im)(CF:Nat)(qz:List (List UInt8))(FT:oc)(Cd:im)(CG:Nat)(qA:List ad.Target)(FU:oc),Fr ⟨59,[]⟩ [] a/\a9 W ar X w [aU.obj cW hb,aU.obj bg cm,aU.row 9 1 (.q Cc CF qz) qz FT,aU.row 116 2 (.q Cd CG qA) qA FU,aU.c8 q 78 [.q Cd CG qA],aU.c8 gn 77 [.q Cc CF qz],aU.c8 P 70 [.cy s]] [bc.rows km FT qz,bc.rows ad.m0 FU qA,b4 ad.mZ t mc p.a1,b4 ad.jj Cb CE p.Fields,bc.ho wJ [.q D E C],b4 (fr .i64) D E C,bc.ho s [.q e3 fv j.l,.map (some v),.q z B j.cL],b4 ad.ji e3 fv j.l,bc.map ka (Value.int .i64) v j.bC,b4 (fr .i64) z B j.cL]/\Ka=(qz,qA)) (λ K zp=>?_) ?_
   ·clear Jj;refine V5 (λ(f':Nat) a w=>∃(I:im)(J:Nat)(u:List (List UInt8))(x5:oc)(Z:im)(rJ:Nat)(O:List ad.Target)(B2:oc)(k:Int),Fr ⟨59,[]⟩ [(6,.cy gn),(7,.cy q),(9,.i n),(27,.q t mc p.a1),(28,.i (p.a1.length:Int)),(29,.i k)] a/\a9 W ar X w [aU.obj cW hb,aU.obj bg cm,aU.row 9 1 (.q I J u) u x5,aU.row 116 2 (.q Z rJ O) O B2,aU.c8 q 78 [.q Z rJ O],aU.c8 gn 77 [.q I J u],aU.c8 P 70 [.cy s]] [bc.rows km x5 u,bc.rows ad.m0 B2 O,b4 ad.mZ t mc p.a1,b4 ad.jj Cb CE p.Fields,bc.ho wJ [.q D E C],b4 (fr .i64) D E C,bc.ho s [.q e3 fv j.l,.map (some v),.q z B j.cL],b4 ad.ji e3 fv j.l,bc.map ka (Value.int .i64) v j.bC,b4 (fr .i64) z B j.cL]/\ad.sv F n p f' u O k=some Ka) F ⟨Q,R,G,V,S,U,H,Y,0,d.cut,f.eI [2,3,0,1,4,5,6,7,8,9],h⟩ ?_ ?_;rintro a w ⟨I,J,u,x5,Z,rJ,O,B2,k,d,f,h⟩;exact absurd h (by simp[ad.sv]);rintro f' a w ⟨I,J,u,x5,Z,rJ,O,B2,k,d,f,h⟩ K acH;rw[ad.sv]at h;refine kn λ K IR=>l2 (by kernel_rfl)<|jY 1 [] [(30,.bool (decide (k<(p.a1.length:Int))))] d λ a d=>wpList_nil (IR _ _ ?_);refine kn λ K acy=>Nk (d.g rfl) (λ I0=>?_) (λ I0=>?_)
    ·have h:=ad.GQ I0 h;refine FC<|acy _ _<|kn λ K acz=>?_;obtain⟨S2,h,Jk⟩:=ad.fF h;refine Nj (λ a w=>∃(Cf:im)(CH:Nat)(qB:List (List UInt8))(FV:oc)(Cg:im)(CI:Nat)(qC:List ad.Target)(FW:oc),Fr ⟨59,[]⟩ [(6,.cy gn),(7,.cy q),(9,.i n),(27,.q t mc p.a1),(28,.i (p.a1.length:Int)),(29,.i k)] a/\a9 W ar X w [aU.obj cW hb,aU.obj bg cm,aU.row 9 1 (.q Cf CH qB) qB FV,aU.row 116 2 (.q Cg CI qC) qC FW,aU.c8 q 78 [.q Cg CI qC],aU.c8 gn 77 [.q Cf CH qB],aU.c8 P 70 [.cy s]] [bc.rows km FV qB,bc.rows ad.m0 FW qC,b4 ad.mZ t mc p.a1,b4 ad.jj Cb CE p.Fields,bc.ho wJ [.q D E C],b4 (fr .i64) D E C,bc.ho s [.q e3 fv j.l,.map (some v),.q z B j.cL],b4 ad.ji e3 fv j.l,bc.map ka (Value.int .i64) v j.bC,b4 (fr .i64) z B j.cL]/\S2=(qB,qC)) (λ K Dq=>?_) ?_
     ·clear Jk;refine kn λ K acA=>l2 (by kernel_rfl)<|jY 1 [] [(31,.i k)] d λ a d=>?_;obtain⟨o,ae',h⟩:=ad.fF h;obtain⟨aco,adM,_,⟨F9,GG,F_,GH,rfl,adl,adm⟩,ac'⟩:=vr _ (f.d 2 rfl) ae';have f:=f.more (y:=b4 ad.vA F9 GG o.b9) adl;have f:=f.more (y:=b4 ad.vz F_ GH o.cj) adm;refine mY wn (m3 Tryd.underlying35 Tryd.sizeOf43 rfl (d.g rfl) (d.g rfl) aco adM) d rfl rfl λ a d=>?_;refine ou 1 [0,0] [(33,.agg #[bQ o.Name,.bool o.Static,.q F9 GG o.b9,.i o.Returns.Kind,bQ o.Returns.ap,.i o.gh,.i o.gg,bQ o.Code,.q F_ GH o.cj])] [c2 t,fp t+(k).toNat*9] (fL ac' gv) d λ a d=>sQ (cs:=[bQ [],.bool false,.slice none 0 0,.i 0,bQ [],.i 0,.i 0,bQ [],.slice none 0 0]) wn (rf Tryd.zeroValue43 rfl rfl) d f rfl rfl λ a H7 w _ d f=>jY 1 [] [(10,.i k)] d λ a d=>?_;refine q1 (vs:=[bQ o.Name,.bool o.Static,.q F9 GG o.b9,.i o.Returns.Kind,bQ o.Returns.ap,.i o.gh,.i o.gg,bQ o.Code,.q F_ GH o.cj]) 0 f rfl wn rfl Tryd.sizeOf43 rfl rfl rfl rfl (d.g rfl) (d.g rfl) rfl λ w f=>wpList_nil<|acA _ _<|kn λ K acB=>l2 (by kernel_rfl)<|jY 2 [] [(34,.i n),(35,.i k)] d λ a d=>?_;refine mY wn (amT (vs:=[(0,.i n),(1,.i k)]) (cs:=[.i n,.i k]) Tryd.zeroValue116 Tryd.underlying116 aip rfl ⟨⟨(d.g rfl),rfl⟩,⟨(d.g rfl),rfl⟩,trivial⟩ (by kernel_rfl)) d rfl rfl λ a d=>sQ (cs:=[.i 0,.i 0]) wn (rf Tryd.zeroValue116 rfl rfl) d f rfl rfl λ a H8 w _ d f=>q1 (vs:=[.i n,.i k]) 0 f rfl wn rfl Tryd.sizeOf116 rfl rfl rfl rfl (d.g rfl) (d.g rfl) rfl λ w f=>wpList_nil ?_;have d:=d.cut (l':=[(6,.cy gn),(7,.cy q),(9,.i n),(11,.cy H7),(12,.cy H8),(27,.q t mc p.a1),(28,.i (p.a1.length:Int)),(29,.i k)]);refine acB _ _<|kn λ K acC=>kn λ K acD=>l2 (by kernel_rfl)<|ou 3 [0,0,1,0] [(37,.q I J u),(39,bQ o.Name)] [H7,0,gn,0] (fL (iP (f.e 7 rfl)) (fL (iP (f.e 1 rfl)) gv)) d λ a d=>?_;obtain⟨vk,aey,h⟩:=ad.fF h;have hc:=f;have au:=hc.freeze 4 2 rfl rfl;refine Bc (vs:=[.q I J u,bQ o.Name]) wn rfl Tryd.call53 ⟨(d.g rfl),(d.g rfl),trivial⟩ (Zg ((au.into 0).pick ⟨⟨0,rfl⟩,trivial⟩) aey) d rfl rfl ?_;rintro _ w ⟨rfl,N⟩;refine⟨_,rfl,λ a d=>?_⟩;have i:aY [] _ w:=N.bM;have f:=hc.fk 0 (by exact trivial) N;clear N hc au;clear i;refine jY 1 [] [(13,.i vk)] d λ a d=>wpList_nil (acD _ _ ?_);refine kn λ K acE=>l2 (by kernel_rfl)<|jY 2 [] [(42,.bool (decide (0<=vk)))] d λ a d=>wpList_nil (acE _ _ ?_);refine Nk (d.g rfl) (λ I1=>?_) (λ I1=>?_)
      ·have h:=ad.GQ I1 h;refine kn λ K acF=>l2 (by kernel_rfl)<|ou 3 [0,0,1,0] [(43,.q Z rJ O),(44,.i vk),(45,.agg #[.i n,.i k])] [H8,0,q,0] (fL (iP (f.e 6 rfl)) (fL (iP (f.e 0 rfl)) gv)) d λ a d=>?_;obtain⟨NG,SI,h⟩:=ad.fF h;obtain⟨acp,adN,_,rfl,ada⟩:=aj' (f.e 5 rfl) (f.d 3 rfl) SI;refine mY wn (m3 Tryd.underlying78 Tryd.sizeOf116 rfl (d.g rfl) (d.g rfl) acp adN) d rfl rfl λ a d=>?_;obtain⟨Ko,adW,h⟩:=ad.fF h;refine akE (T:=ad.m0) (d':=(⟨n,k⟩:ad.Target)) (vs:=[.i n,.i k]) (cs0:=[.i NG.ap,.i NG.Method]) (kk:=0) 5 3 adW f rfl rfl SI rfl ada wn rfl Tryd.sizeOf116 rfl rfl rfl rfl rfl (d.g rfl) (d.g rfl) rfl λ amM w M i f=>?_;try unfold Value.q at f;try unfold Value.q at d;rw[M]at f;try rw[M]at d;clear M;clear i;refine wpList_nil ?_;have d:=d.cut (l':=[(6,.cy gn),(7,.cy q),(9,.i n),(27,.q t mc p.a1),(28,.i (p.a1.length:Int)),(29,.i k)]);refine acF _ _<|Nl<|rb (B0 ?_)
       exact Dq _ _ ⟨I,J,u,x5,Z,rJ,Ko,amM,d.cut,f.o' [2,3,4,5,6,7,8] [3,0,5,6,7,8,9,10,11,12],(os h)⟩
      have h:=ad.GO I1 h;refine FC<|acC _ _<|V4 (m:=11) 8 (aY (Value.q I J u).ownBlock.toList) (by kernel_rfl) rfl (by kernel_rfl) λ w i=>?_;have f:=f.ep i;clear i;have l:=f;have g:=aY.refl (Value.q I J u).ownBlock.toList w;refine dr [0,1,2,5,6] 5 [0,0,1,0,2,0,3,0] [(47,.q I J u),(49,bQ o.Name),(52,.q Z rJ O),(53,.agg #[.i n,.i k])] [H8,0,q,0,H7,0,gn,0] (λ bV i=>(fL (C4 i (l.Ew 7 4 rfl rfl (by decide)) (y0 (l.e 7 rfl)) (iP (l.e 7 rfl))) (fL (C4 i (l.Ew 1 4 rfl rfl (by decide)) (y0 (l.e 1 rfl)) (iP (l.e 1 rfl))) (fL (C4 i (l.Ew 6 4 rfl rfl (by decide)) (y0 (l.e 6 rfl)) (iP (l.e 6 rfl))) (fL (C4 i (l.Ew 0 4 rfl rfl (by decide)) (y0 (l.e 0 rfl)) (iP (l.e 0 rfl))) gv))))) d g λ a d=>Ou 3 7 rfl rfl (by kernel_rfl) (λ _=>g) ?_ ?_;refine AJ (cs:=[bQ o.Name]) wn (x7 (vs:=[(0,bQ o.Name)]) Tryd.underlying77 Tryd.sizeOf9 Tryd.zeroValue9 rfl rfl rfl ⟨⟨(d.g rfl),rfl⟩,trivial⟩ (by kernel_rfl)) d f rfl rfl λ a ab2 w i zC d f=>?_;have zC:=fo g.size zC;have g:=g.trans i (by simp);clear i;refine h9<|Ou 4 7 rfl rfl (by kernel_rfl) (λ _=>g) ?_ ?_;obtain⟨D0,adX,h⟩:=ad.fF h;refine MI (T:=km) (ml:=[o.Name]) 5 0 2 f rfl rfl rfl Tryd.underlying77 J2 rfl rfl adX rfl rfl ⟨_,_,rfl,rfl,rfl⟩ wn rfl (d.g rfl) (d.g rfl) d rfl rfl λ a NZ OY amN w i d f=>?_;have g:=g.trans i (λ x aa=>.inl aa);clear i;refine h9<|jW 7 rfl (by kernel_rfl) (λ _=>g)<|AJ (cs:=[.i n,.i k]) wn (x7 (vs:=[(0,.agg #[.i n,.i k])]) Tryd.underlying78 Tryd.sizeOf116 Tryd.zeroValue116 rfl rfl rfl ⟨⟨(d.g rfl),rfl⟩,trivial⟩ (by kernel_rfl)) d f rfl rfl λ a anN w i Sc d f=>?_;have Sc:=fo g.size Sc;have g:=g.trans i (by simp);clear i;refine h9 ?_;refine jW 8 rfl (by kernel_rfl) (λ _=>g) ?_;obtain⟨oT,zR,h⟩:=ad.fF h;refine Fa (T:=ad.m0) (ml:=[(⟨n,k⟩:ad.Target)]) 6 0 4 f rfl rfl rfl Tryd.underlying78 J1 rfl rfl zR rfl rfl ⟨_,_,rfl,rfl,rfl⟩ wn rfl (d.g rfl) (d.g rfl) d rfl rfl λ a rl rK B3 w d f=>h9 ?_;clear l g;have l:=f;have g:=aY.refl [] w;refine er.next 9 (aY [] w) (by kernel_rfl)<|jW 9 rfl (by kernel_rfl) (λ _=>g)<|q1 (vs:=[.q NZ OY D0]) 7 f rfl wn rfl Tryd.sizeOf77 rfl rfl rfl rfl (d.g rfl) (d.g rfl) rfl λ w f=>h9 ?_;clear l g;have l:=f;have g:=aY.refl [] w;refine er.next 10 (aY [] w) (by kernel_rfl)<|jW 10 rfl (by kernel_rfl) (λ _=>g)<|q1 (vs:=[.q rl rK oT]) 6 f rfl wn rfl Tryd.sizeOf78 rfl rfl rfl rfl (d.g rfl) (d.g rfl) rfl λ w f=>h9 ?_;clear l g;have l:=f;have g:=aY.refl [] w;refine er.next 11 (aY [] w) (by kernel_rfl)<|Cv (by kernel_rfl) ?_ (λ _=>g);clear l g;have d:=d.cut (l':=[(6,.cy gn),(7,.cy q),(9,.i n),(27,.q t mc p.a1),(28,.i (p.a1.length:Int)),(29,.i k)]);exact Dq _ _ ⟨NZ,OY,D0,amN,rl,rK,oT,B3,d.cut,f.o' [2,3,4,5,6,7,8] [1,0,6,7,8,9,10,11,12,13],(os h)⟩;refine AJ (cs:=[.i n,.i k]) wn (x7 (vs:=[(0,.agg #[.i n,.i k])]) Tryd.underlying78 Tryd.sizeOf116 Tryd.zeroValue116 rfl rfl rfl ⟨⟨(d.g rfl),rfl⟩,trivial⟩ (by kernel_rfl)) d f rfl rfl λ a ab3 w i zD d f=>?_;have zD:=fo g.size zD;have g:=g.trans i (by simp);clear i;refine h9<|jW 4 rfl (by kernel_rfl) (λ _=>g) ?_;obtain⟨An,Jt,h⟩:=ad.fF h;refine MI (T:=km) (ml:=[o.Name]) 6 1 2 f rfl rfl rfl Tryd.underlying77 J2 rfl rfl Jt rfl rfl ⟨_,_,rfl,rfl,rfl⟩ wn rfl (d.g rfl) (d.g rfl) d rfl rfl λ a yc y2 NJ w i d f=>?_;have g:=g.trans i (λ x aa=>.inl aa);clear i;refine h9 ?_;refine jW 8 rfl (by kernel_rfl) (λ _=>g) ?_;obtain⟨oT,zR,h⟩:=ad.fF h;refine Fa (T:=ad.m0) (ml:=[(⟨n,k⟩:ad.Target)]) 6 0 4 f rfl rfl rfl Tryd.underlying78 J1 rfl rfl zR rfl rfl ⟨_,_,rfl,rfl,rfl⟩ wn rfl (d.g rfl) (d.g rfl) d rfl rfl λ a rl rK B3 w d f=>h9 ?_;clear l g;have l:=f;have g:=aY.refl [] w;refine er.next 9 (aY [] w) (by kernel_rfl)<|jW 9 rfl (by kernel_rfl) (λ _=>g)<|q1 (vs:=[.q yc y2 An]) 7 f rfl wn rfl Tryd.sizeOf77 rfl rfl rfl rfl (d.g rfl) (d.g rfl) rfl λ w f=>h9 ?_;clear l g;have l:=f;have g:=aY.refl [] w;refine er.next 10 (aY [] w) (by kernel_rfl)<|jW 10 rfl (by kernel_rfl) (λ _=>g)<|q1 (vs:=[.q rl rK oT]) 6 f rfl wn rfl Tryd.sizeOf78 rfl rfl rfl rfl (d.g rfl) (d.g rfl) rfl λ w f=>h9 ?_;clear l g;have l:=f;have g:=aY.refl [] w;refine er.next 11 (aY [] w) (by kernel_rfl)<|Cv (by kernel_rfl) ?_ (λ _=>g);clear l g;have d:=d.cut (l':=[(6,.cy gn),(7,.cy q),(9,.i n),(27,.q t mc p.a1),(28,.i (p.a1.length:Int)),(29,.i k)]);exact Dq _ _ ⟨yc,y2,An,NJ,rl,rK,oT,B3,d.cut,f.o' [2,3,4,5,6,7,8] [1,0,6,7,8,9,10,11,12,13],(os h)⟩;refine AJ (cs:=[.i n,.i k]) wn (x7 (vs:=[(0,.agg #[.i n,.i k])]) Tryd.underlying78 Tryd.sizeOf116 Tryd.zeroValue116 rfl rfl rfl ⟨⟨(d.g rfl),rfl⟩,trivial⟩ (by kernel_rfl)) d f rfl rfl λ a ab2 w i zC d f=>?_;have zC:=fo g.size zC;have g:=g.trans i (by simp);clear i;refine h9<|jW 3 rfl (by kernel_rfl) (λ _=>g)<|AJ (cs:=[bQ o.Name]) wn (x7 (vs:=[(0,bQ o.Name)]) Tryd.underlying77 Tryd.sizeOf9 Tryd.zeroValue9 rfl rfl rfl ⟨⟨(d.g rfl),rfl⟩,trivial⟩ (by kernel_rfl)) d f rfl rfl λ a ab3 w i zD d f=>?_;have zD:=fo g.size zD;have g:=g.trans i (by simp);clear i;refine h9 ?_;refine jW 4 rfl (by kernel_rfl) (λ _=>g) ?_;obtain⟨An,Jt,h⟩:=ad.fF h;refine MI (T:=km) (ml:=[o.Name]) 6 0 2 f rfl rfl rfl Tryd.underlying77 J2 rfl rfl Jt rfl rfl ⟨_,_,rfl,rfl,rfl⟩ wn rfl (d.g rfl) (d.g rfl) d rfl rfl λ a yc y2 NJ w i d f=>?_;have g:=g.trans i (λ x aa=>.inl aa);clear i;refine h9<|jW 8 rfl (by kernel_rfl) (λ _=>g) ?_;obtain⟨oT,zR,h⟩:=ad.fF h;refine Fa (T:=ad.m0) (ml:=[(⟨n,k⟩:ad.Target)]) 6 0 4 f rfl rfl rfl Tryd.underlying78 J1 rfl rfl zR rfl rfl ⟨_,_,rfl,rfl,rfl⟩ wn rfl (d.g rfl) (d.g rfl) d rfl rfl λ a rl rK B3 w d f=>h9 ?_;clear l g;have l:=f;have g:=aY.refl [] w;refine er.next 9 (aY [] w) (by kernel_rfl)<|jW 9 rfl (by kernel_rfl) (λ _=>g)<|q1 (vs:=[.q yc y2 An]) 7 f rfl wn rfl Tryd.sizeOf77 rfl rfl rfl rfl (d.g rfl) (d.g rfl) rfl λ w f=>h9 ?_;clear l g;have l:=f;have g:=aY.refl [] w;refine er.next 10 (aY [] w) (by kernel_rfl)<|jW 10 rfl (by kernel_rfl) (λ _=>g)<|q1 (vs:=[.q rl rK oT]) 6 f rfl wn rfl Tryd.sizeOf78 rfl rfl rfl rfl (d.g rfl) (d.g rfl) rfl λ w f=>h9 ?_;clear l g;have l:=f;have g:=aY.refl [] w;refine er.next 11 (aY [] w) (by kernel_rfl)<|Cv (by kernel_rfl) ?_ (λ _=>g);clear l g;have d:=d.cut (l':=[(6,.cy gn),(7,.cy q),(9,.i n),(27,.q t mc p.a1),(28,.i (p.a1.length:Int)),(29,.i k)]);exact Dq _ _ ⟨yc,y2,An,NJ,rl,rK,oT,B3,d.cut,f.o' [2,3,4,5,6,7,8] [1,0,6,7,8,9,10,11,12,13],(os h)⟩
     rintro a w ⟨Cf,CH,qB,FV,Cg,CI,qC,FW,d,f,aB⟩;subst S2;have h:=Jk;clear Jk;dsimp only at h;refine acz _ _<|l2 (by kernel_rfl)<|jY 2 [] [(29,.i (ad.bj (k+1)))] d λ a d=>wpList_nil ?_;exact acH _ _ ⟨Cf,CH,qB,FV,Cg,CI,qC,FW,ad.bj (k+1),d.cut,f,h⟩
    have h:=ad.GO I0 h;refine Nl<|rb (rb (B0 ?_));exact zp _ _ ⟨I,J,u,x5,Z,rJ,O,B2,d.cut,f,(os h)⟩
   rintro a w ⟨Cc,CF,qz,FT,Cd,CG,qA,FU,d,f,aB⟩;subst Ka;have h:=Jj;clear Jj;dsimp only at h;exact IU _ _ ⟨Cc,CF,qz,FT,Cd,CG,qA,FU,d.cut,f.eI [0,1,4,5,6,7,8,9],(os h)⟩
  rintro a w ⟨B_,CC,qx,FQ,Ca,CD,qy,FR,d,f,aB⟩;subst S1;have h:=Ji;clear Ji;dsimp only at h;exact bX (B_,CC,qx,FQ,Ca,CD,qy,FR) _ _ h (f)
 clear f d;intro anO b a w Jm d f;obtain⟨Q,R,G,V,S,U,H,Y⟩:=b;dsimp only at Jm f;rw[ad.su]at Jm;obtain rfl:=cf Jm;have d:=d.cut (l':=[(6,.cy gn),(7,.cy q)]);dsimp only at h;refine pU _ _<|wp_seq_k λ K acG=>Zf (by kernel_rfl) (by kernel_rfl)<|aiR 4 [0,0,1,0] [(4,.q Q R G),(5,.q S U H)] [q,0,gn,0] (λ bV i=>(fL (wE i (iP (f.e 4 rfl))) (fL (wE i (iP (f.e 3 rfl))) gv))) d λ a d=>wpQuiet_nil λ w i=>?_;have f:=f.ep i;clear i;refine acG _ _<|wp_ret ?_
 obtain rfl:=cf h;refine ahf 0 Tryd.results28 d f rfl rfl rfl λ w f=>?_;exact⟨Q,R,V,S,U,Y,rfl,f.o' [1,2] [0,1]⟩
section
variable{F:Nat->Prop}{w:World}
theorem Y0{cs:List Value}{d:ad.Kind}(h:(bf.ty 40).rd F w cs d):ad.vA.rd F w cs d:=by change fb (λ t=>(gm C2 t).ty) F w [.i .i64,.s] cs (d.Kind,d.ap,())at h;obtain⟨_,_,rfl,rfl,_,_,rfl,rfl,rfl⟩:=h;rfl
theorem YZ{cs:List Value}{d:ad.Handler}(h:(bf.ty 107).rd F w cs d):ad.vz.rd F w cs d:=by change fb (λ t=>(gm C0 t).ty) F w [.i .i64,.i .i64,.i .i64,.s] cs (d.From,d.To,d.dJ,d.ap,())at h;obtain⟨_,_,rfl,rfl,_,_,rfl,rfl,_,_,rfl,rfl,_,_,rfl,rfl,rfl⟩:=h;rfl
theorem YY{cs:List Value}{d:ad.Field}(h:(bf.ty 94).rd F w cs d):ad.jj.rd F w cs d:=by change fb (λ t=>(gm y8 t).ty) F w [.s,.i .i64,.s] cs (d.Name,d.Kind.Kind,d.Kind.ap,())at h;obtain⟨_,_,rfl,rfl,_,_,rfl,rfl,_,_,rfl,rfl,rfl⟩:=h;rfl
theorem Y1{cs:List Value}{d:ad.Method}(h:(bf.ty 43).rd F w cs d):ad.mZ.rd F w cs d:=by change fb (λ t=>(gm CZ t).ty) F w [.s,.b,.l 40,.i .i64,.s,.i .i64,.i .i64,.s,.l 107] cs (d.Name,d.Static,d.b9,d.Returns.Kind,d.Returns.ap,d.gh,d.gg,d.Code,d.cj,())at h;obtain⟨_,_,rfl,rfl,_,_,rfl,rfl,_,_,rfl,I,_,_,rfl,rfl,_,_,rfl,rfl,_,_,rfl,rfl,_,_,rfl,rfl,_,_,rfl,rfl,_,_,rfl,J,rfl⟩:=h;have I:(cM (bf.ty 40)).rd F w [_] d.b9:=I;have J:(cM (bf.ty 107)).rd F w [_] d.cj:=J;obtain⟨A,c,rfl⟩:=jN _ I;obtain⟨a,b,rfl⟩:=jN _ J;exact⟨A,c,a,b,rfl,n0 (λ _ _=>Y0) I,n0 (λ _ _=>YZ) J⟩
theorem YX{cs:List Value}{d:ad.ap}(h:(bf.ty 37).rd F w cs d):ad.ji.rd F w cs d:=by change fb (λ t=>(gm C1 t).ty) F w [.s,.s,.l 94,.l 43] cs (d.Name,d.b_,d.Fields,d.a1,())at h;obtain⟨_,_,rfl,rfl,_,_,rfl,rfl,_,_,rfl,I,_,_,rfl,J,rfl⟩:=h;have I:(cM (bf.ty 94)).rd F w [_] d.Fields:=I;have J:(cM (bf.ty 43)).rd F w [_] d.a1:=J;obtain⟨A,c,rfl⟩:=jN _ I;obtain⟨a,b,rfl⟩:=jN _ J;exact⟨A,c,a,b,rfl,n0 (λ _ _=>YY) I,n0 (λ _ _=>Y1) J⟩
theorem OU{cs:List Value}{d:Int}(h:(bf.ty 3).rd F w cs d):cs=[.int .i64 d]:=by change fb (λ t=>(gm Hk t).ty) F w [.i .i64] cs (d,())at h;obtain⟨_,_,rfl,rfl,rfl⟩:=h;rfl
theorem ajJ{F':Nat->Prop}{cs:List Value}{d:ad.Field}(h:ad.jj.rd F w cs d):(bf.ty 94).rd F' w cs d:=by change cs=_ at h;subst h;change fb (λ t=>(gm y8 t).ty) F' w [.s,.i .i64,.s] _ (d.Name,d.Kind.Kind,d.Kind.ap,());exact⟨_,_,rfl,rfl,_,_,rfl,rfl,_,_,rfl,rfl,rfl⟩
theorem ajL{F':Nat->Prop}{cs:List Value}{d:ad.Target}(h:ad.m0.rd F w cs d):(bf.ty 116).rd F' w cs d:=by change cs=_ at h;subst h;change fb (λ t=>(gm Hl t).ty) F' w [.i .i64,.i .i64] _ (d.ap,d.Method,());exact⟨_,_,rfl,rfl,_,_,rfl,rfl,rfl⟩
theorem ajK{F':Nat->Prop}{cs:List Value}{d:List UInt8}(h:km.rd F w cs d):(bf.ty 9).rd F' w cs d:=by change cs=_ at h;subst h;change fb (λ t=>(gm Ho t).ty) F' w [.s] _ (d,());exact⟨_,_,rfl,rfl,rfl⟩
theorem aaM{es:List MapEntry}{d:List (List UInt8×Int)}(h: @gK bf F w 9 3 Aj es d):Gb ka (Value.int .i64) es d:=by
 induction es generalizing d with
 |nil=>cases d with
  |nil=>rfl
  |cons p d=>exact h.elim
 |cons e es a=>cases d with
  |nil=>exact h.elim
  |cons p d=>obtain⟨I,⟨xs,J,b⟩,c⟩:=h;have J:=OU J;subst J;have:=a c;unfold Gb at this⊢;rw[fA,fA,this];rw[show e.val= .int .i64 p.2 from b,show e.key=ka.enc p.1 from I]
abbrev sy(cs:List ad.ap)(bC:List (List UInt8×Int))(hD:List Int):List (ay bf.El):=[.c 74 [.s 37 (cs:List (bf.El 37)),.m 1,.s 3 (hD:List (bf.El 3))],.m 9 3 (bC:List (bf.El 9×bf.El 3))]
theorem Tp{W:World}{ar:List Nat}{X:Nat->Prop}{ρ vs:List Value}{cs:List ad.ap}{bC:List (List UInt8×Int)}{hD:List Int}{n:Int}
 (e:Mem bf W ar X (sy cs bC hD) ρ w)(m:aR bf (aW X (sy cs bC hD) ρ w) w ρ (sy cs bC hD) [.b 0 0,.p (.int .i64 n)] vs) :
 ∃g A c r a d,vs=[.pointer (some ⟨g,0,none⟩),.int .i64 n]/\a9 w [] [] w [] [bc.ho g [.slice A cs.length c,.map (some r),.slice a hD.length d],b4 ad.ji A c cs,bc.map ka (Value.int .i64) r bC,b4 (fr .i64) a d hD]:=by
 have M:=e.len
 obtain⟨N,o⟩:=e.Ar (i:=0) rfl
 obtain⟨I,p⟩:=e.Ar (i:=1) rfl
 have b0:=e.ok 0 _ _ rfl o
 have E:=e.ok 1 _ _ rfl p
 obtain⟨g,us,rfl,q,s⟩:=b0
 obtain⟨r,rfl,K,G,es,dA,u,H,J,ag⟩:=E
 simp only[aR,aq]at s m
 obtain⟨O,_,rfl,v,P,_,rfl,⟨Q,x,rfl⟩,L,_,rfl,z,rfl⟩:=s
 obtain⟨_,_,rfl,⟨g',B,rfl⟩,_,_,rfl,rfl,rfl⟩:=m
 rw[o]at B
 rw[p]at x
 cases B
 cases x
 obtain⟨A,c,rfl⟩:=jN _ v
 obtain⟨a,d,rfl⟩:=jN _ z
 have C:∀k,aW X (sy cs bC hD) ρ w k->gL [] w k/\w.heap[k]? =w.heap[k]? :=λ k f=>⟨⟨by simp,f.2.2⟩,rfl⟩
 have j:(b4 ad.ji A c cs).ok [] w:=n0 (λ _ _=>YX) ((cM (bf.ty 37)).law C v)
 have l:(b4 (fr .i64) a d hD).ok [] w:=n0 (λ _ _=>OU) ((cM (bf.ty 3)).law C z)
 have D:∀k b,w.heap[k]? =some b->k<w.heap.size:=λ k b f=>by rcases gE k w.heap.size with h |h;exact h;rw[hI h]at f;cases f
 obtain rfl:Aj=K:=eR G
 refine⟨g,A,c,r,a,d,rfl,a9.start [] [] w [] _ (by simp) (by simp[bD]) (by simp) (by simp[bD]) λ y hy=>?_⟩
 simp only[dc,hx,or_false]at hy
 rcases hy with rfl |rfl |rfl |rfl
 ·exact⟨by simp[bD],D _ _ q,iP (t:=74) (cs:=[.slice A cs.length c,.map (some r),.slice a hD.length d]) q⟩
 ·exact j
 ·exact⟨by simp[bD],D _ _ u,es,dA,u,aaM H,J,ag⟩
 ·exact l
end
theorem ZP(F:Nat):(S4 F).gC.Cj bd 29:=by intro aN aO h3 h W ar X ρ w vs a _ d;obtain⟨⟨⟩,n,⟨⟩⟩:=aN;obtain⟨⟨cs,⟨⟩,hD,⟨⟩⟩,bC,⟨⟩⟩:=aO;have h:fe _ (ad.oW F ⟨cs,bC,hD⟩ n)=some h3:=h;obtain⟨r,f,rfl⟩:=c9.1 h;have a:Mem bf W ar X (sy cs bC hD) ρ w:=a;obtain⟨g,A,c,q,u,v,rfl,i⟩:=Tp a d;refine⟨⟨.ret (.r 2 0),sy cs bC hD++[.r 94 0 0 (r:List (bf.El 94))],[]⟩,by kernel_rfl,?_⟩;refine(Zc i f).mono λ e w' ⟨x,y,xs,j,b⟩=>?_;obtain⟨l,m⟩:=a.akG b (t:=94) rfl λ _ _ _ o _=>ajJ o;refine⟨_,l,m,λ k p _=>b.bM.block k p (by simp),?_⟩;subst j;have s:ρ.length=2:=a.len;exact⟨trivial,_,by rw[eX (by omega),s];rfl,da _,λ _=>rfl⟩
theorem ZQ(F:Nat):(S5 F).gC.Cj bd 28:=by intro aN aO h3 h W ar X ρ w vs a _ i;obtain⟨⟨⟩,n,⟨⟩⟩:=aN;obtain⟨⟨cs,⟨⟩,hD,⟨⟩⟩,bC,⟨⟩⟩:=aO;have h:fe _ (ad.u3 F ⟨cs,bC,hD⟩ n)=some h3:=h;obtain⟨r,j,rfl⟩:=c9.1 h;have a:Mem bf W ar X (sy cs bC hD) ρ w:=a;obtain⟨g,A,c,q,u,v,rfl,l⟩:=Tp a i;refine⟨⟨.ret (.u [.r 2 0,.r 3 0]),sy cs bC hD++[.r 9 0 0 (r.1 :List (bf.El 9)),.r 116 0 0 (r.2 :List (bf.El 116))],[]⟩,by kernel_rfl,?_⟩;refine(Zd l j).mono λ e w' ⟨x,y,xs,z,B,ys,m,d⟩=>?_;obtain⟨o,p⟩:=a.akH d (t:=9) (t':=116) rfl (λ _ _ _ b _=>ajK b) rfl λ _ _ _ b _=>ajL b;refine⟨_,o,p,λ k s _=>d.bM.block k s (by simp),?_⟩;subst m;have f:ρ.length=2:=a.len;refine⟨_,rfl,_,_,rfl,⟨trivial,_,by rw[eX (by omega),f];rfl,da _,λ _=>rfl⟩,_,_,rfl,⟨trivial,_,by rw[eX (by omega),f];rfl,da _,λ _=>rfl⟩,rfl⟩
theorem YR:hj.dF:=⟨⟨λ g h e=>(by cases e),λ g h e=>(by cases e)⟩,λ g fn c _ _ _=>nE (λ _=>rfl) c⟩
theorem Y7(F:Nat):(yf F).dF:=((aia nl (ah' nl (ah_ nl (ah9 nl YR)))).oj (f:=28) (by kernel_rfl) λ ys bl r a=>GR rY (ZQ F) ys bl r (vp a)).oj (f:=29) (by kernel_rfl) λ ys bl r a=>GR rY (ZP F) ys bl r (vp a)
end Go.Proofs.YtifhjkbiiekamaaDoor
namespace a8
open Go Go.RowKit aA ad
structure bs (E:Env) where
 t:dz E
 ok:cv E->t.dF
 dW:ik E
section
variable{E:Env}
def bs.rt(s:bs E)(f:Nat)(c:g5 E.T)(a:c.Eq E s.t.a0 s.t.LE f)(b:ev E.bU f=true:=by kernel_rfl):bs E:=⟨s.t.f f (c.run E),λ h=>(s.ok h).rt h s.dW b a,s.dW⟩
def bs.zc(s:bs E)(f:Nat)(c:g5 E.T)(a:c.Eq E s.t.a0 s.t.LE f)(b:ev E.bU f=true:=by kernel_rfl):bs E:=⟨s.t.zc f c,λ h=>(s.ok h).abP h s.dW b a,s.dW⟩
def bs.fn(s:bs E)(f:Nat)(c:eN E.T)(a:c.Eq E s.t.a0 s.t.LE f)(b:ev E.bU f=true:=by kernel_rfl):bs E:=⟨s.t.f f (c.run E),λ h=>(s.ok h).fn h s.dW b a,s.dW⟩
def bs.iR(s:bs E)(f:Nat)(c:jm E.T)(a:c.Eq E s.t.a0 s.t.LE f)(b:ev E.bU f=true:=by kernel_rfl):bs E:=⟨s.t.f f (c.run E),λ h=>(s.ok h).iR h s.dW b a,s.dW⟩
def bs.add(s:bs E)(f:Nat)(r:List (aD E.T.El)->List (ay E.T.El)->D (eO E.T.El))(hc:iI E f r)(a:ev E.bU f=true:=by kernel_rfl):bs E:=⟨s.t.f f r,λ h=>(s.ok h).oj a hc,s.dW⟩
def bs.dL(s:bs E)(g i F:Nat)(c:c0 E.T)(a:c.u0.l8 E s.t.a0 (s.t.LE g) (kh E.P g) i (oo E.P g i))(I:sV E.P g i=true:=by kernel_rfl):bs E:=⟨s.t.l g i (c.run E F),λ h=>(s.ok h).dL h s.dW I a F,s.dW⟩
def bs.KH(s:bs E)(g i F:Nat)(c:g2 E.T)(a:c.Eq E s.t.a0 (s.t.LE g) (kh E.P g) i (oo E.P g i))(I:sV E.P g i=true:=by kernel_rfl):bs E:=⟨s.t.l g i (c.run E F),λ h=>(s.ok h).KH h s.dW I a F,s.dW⟩
end
end a8
