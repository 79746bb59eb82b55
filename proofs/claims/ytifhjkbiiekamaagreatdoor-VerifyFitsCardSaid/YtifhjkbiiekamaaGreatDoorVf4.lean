/- Part 4 of the proof that is ended in the last text: small logic, what the functions compute, walks, plain laws. -/
import Derived.Test.YtifhjkbiiekamaaGreatDoorVf3
import Derived.Test.YtifhjkbiiekamaaGreatDoorChecked
import Derived.KernelRfl
open Array renaming getElem?_eq_none->hA
open Bool renaming and_eq_true->bM,eq_false_iff->gA,false_eq_true->hT,not_eq_true'->gx
open List renaming append_nil->jb,cons.injEq->hH,flatMap_cons->ik,getElem?_append_right->eW,getElem?_eq_getElem->bx,getElem?_eq_some_iff->bg,length_reverse->jW,map_cons->eZ,mem_append_left->lr,mem_cons->cU,mem_cons_of_mem->fD,mem_flatMap->hn,mem_iff_getElem->jk,nodup_append->fL,not_mem_nil->hl
open Nat renaming beq->b2,ble->hR,blt->eh,eq_of_beq_eq_true->a8,le_of_ble_eq_true->b_,le_refl->cS,le_trans->eY,lt_or_ge->gw,lt_succ_self->kA
open Option renaming bind->ej,map->eV,map_eq_some_iff->cQ,some.inj->eG,some.injEq->aM
open Prod renaming mk.injEq->cv
noncomputable section
namespace a9
open Go Go.RowKit aw ad
inductive sf
 |nm
 |ex (id:Nat)
 |rt
structure iV where
 x:sf
 eS:List Nat
 ea:List cW
 c9:List bB
def G7:sf->sf->Bool
 | .nm,.nm=>true
 | .ex i,.ex j=>b2 i j
 | .rt,.rt=>true
 |_,_=>false
theorem XV{x y:sf}(h:G7 x y=true):x=y:=by
 cases x<;>cases y<;>simp only[G7,hT]at h<;>try rfl
 rw[a8 h]
def C5{El:Nat->Type}:sf->zL El
 | .nm=>.nm
 | .ex i=>.ex i
 | .rt=>.rt
@[reducible] def zx(El:Nat->Type)(w:iV):Type:=c8 El w.ea×ct El w.c9
@[reducible] def r4(El:Nat->Type):List iV->Type
  |[]=>Empty
  |[w]=>zx El w
  |w::v::r=>zx El w⊕r4 El (v::r)
structure hb (T:bD) where
 eS:List Nat
 bf:List cW
 pbs:List bB
 ws:List iV
 fn:Nat->c8 T.El bf×ct T.El pbs->Option (r4 T.El ws)
def wY(E:Env)(gn:Nat)(x:sf)(bl:List (az E.T.El))(f:cf E.T.El):(ws:List iV)->Option (r4 E.T.El ws)
 |[]=>none
 |[w]=>match G7 w.x x with
  |true=>yS E gn bl f w.eS w.ea w.c9
  |false=>none
 |w::v::r=>match(match G7 w.x x with
   |true=>yS E gn bl f w.eS w.ea w.c9
   |false=>none)with
  |some d=>some (.inl d)
  |none=>match wY E gn x bl f (v::r)with
   |some q=>some (.inr q)
   |none=>none
def F1(E:Env)(bl:List (az E.T.El))(sel ws:List Nat)(w:iV)(d:zx E.T.El w):D (b1 E.T.El):=.ok ⟨C5 w.x,⟨⟨rX w.eS (fq (hL sel bl.length) (eK bl sel w.c9) w.ea d.1),[],[]⟩,fx bl sel w.c9 d.2,sel++ws⟩⟩
def yL(E:Env)(bl:List (az E.T.El))(sel us:List Nat):(ws:List iV)->Option (r4 E.T.El ws)->D (b1 E.T.El)
 |[],_=>.no
 |[w],o=>.op o λ d=>F1 E bl sel us w d
 |w::v::r,o=>.pL o (λ d=>F1 E bl sel us w d) (λ q=>yL E bl sel us (v::r) (some q))
def yG(pbs:List bB):List iV->Bool
 |[]=>true
 |w::r=>ib pbs w.c9&&oh pbs w.c9&&yG pbs r
def hb.run(E:Env)(F:Nat)(c:hb E.T)(s:dg E.T.El):D (b1 E.T.El):=match ma E s.bl s.f [] (c.eS.map .tmp)with
 |some ys=>match gl [] c.bf c.pbs s.bl ys with
  |(a,b)=>match yG c.pbs c.ws&&(ib c.pbs c.pbs&&oh c.pbs c.pbs),gY a [] false c.bf c.pbs b with
   |true,some (d,sel)=>yL E a sel s.ws c.ws (c.fn F d)
   |_,_=>.no
 |none=>.no
def Sb(id i:Nat):sf:=match b2 i id with
 |true=>.nm
 |false=>.ex i
def hb.fin(E:Env)(c:hb E.T)(id k:Nat)(t:b1 E.T.El):Option (r4 E.T.El c.ws):=match t.x with
 | .nm=>match yS E c.pbs.length t.s.bl t.s.f c.eS c.bf c.pbs with
   |some d=>c.fn k d
   |none=>none
 | .ex i=>wY E c.pbs.length (Sb id i) t.s.bl t.s.f c.ws
 | .rt=>wY E c.pbs.length .rt t.s.bl t.s.f c.ws
 | .eR _=>none
def sK(E:Env)(c:hb E.T)(aH:c8 E.T.El c.bf)(aJ:ct E.T.El c.pbs):dg E.T.El:=⟨⟨rX c.eS (fq id (cl false c.pbs) c.bf aH),[],[]⟩,bA id (cl false c.pbs) false c.pbs aJ,[]⟩
structure hb.Eq (E:Env) (a4:dW E) (LE:js E) (n id:Nat) (body:Code) (c:hb E.T):Prop where
 zero:∀d,c.fn 0 d=none
 succ:∀k (aH:c8 E.T.El c.bf)(aJ:ct E.T.El c.pbs),(den E a4 LE n body (sK E c aH aJ)).run (c.fin E id k)=c.fn (k+1) (aH,aJ)
structure hb.mv (E:Env) (a4:dW E) (LE:js E) (n id:Nat) (body:Code) (c:hb E.T):Prop where
 zero:∀d,c.fn 0 d=none
 succ:∀k (aH:c8 E.T.El c.bf)(aJ:ct E.T.El c.pbs) r,c.fn (k+1) (aH,aJ)=some r->(den E a4 LE n body (sK E c aH aJ)).run (c.fin E id k)=some r
theorem hb.Eq.one{E:Env}{a4:dW E}{LE:js E}{n id:Nat}{body:Code}{c:hb E.T}(h:c.Eq E a4 LE n id body):c.mv E a4 LE n id body:=⟨h.zero,λ k aH aJ _ a=>(h.succ k aH aJ).trans a⟩
section
variable{E:Env}{a4:dW E}{LE:js E}
theorem W8{gn:Nat}{x:sf}{bl:List (az E.T.El)}{f:cf E.T.El}:∀ {ws:List iV}{r:r4 E.T.El ws},wY E gn x bl f ws=some r ->
 ∃(w:iV)(aH:c8 E.T.El w.ea)(aJ:ct E.T.El w.c9),w∈ws/\w.x=x/\yS E gn bl f w.eS w.ea w.c9=some (aH,aJ)/\∀bl' sel us t,(yL E bl' sel us ws (some r)).out t->⟨C5 w.x,⟨⟨rX w.eS (fq (hL sel bl'.length) (eK bl' sel w.c9) w.ea aH),[],[]⟩,fx bl' sel w.c9 aJ,sel++us⟩⟩=t
 |[],r,h=>by cases h
 |[w],r,h=>by simp only[wY]at h;split at h;rename_i c;refine⟨w,r.1,r.2,by simp,XV c,h,λ bl' sel us t b=>?_⟩;obtain⟨d,a,al⟩:=b;simp only[aM]at a;subst a;exact al;cases h
 |w::v::ws,r,h=>by simp only[wY]at h;split at h;rename_i d aC;simp only[aM]at h;subst h;split at aC;rename_i c;refine⟨w,d.1,d.2,by simp,XV c,aC,λ bl' sel us t b=>?_⟩;rcases b with⟨d',a,al⟩|⟨d',a,al⟩;simp only[aM,Sum.inl.injEq]at a;subst a;exact al;simp at a;cases aC;split at h;rename_i q e;simp only[aM]at h;subst h;obtain⟨w',aH,aJ,I,J,g,i⟩:=W8 e;refine⟨w',aH,aJ,fD _ I,J,g,λ bl' sel us t b=>?_⟩;rcases b with⟨d',a,al⟩|⟨d',a,al⟩;simp at a;simp only[aM,Sum.inr.injEq]at a;subst a;exact i bl' sel us t al;cases h
theorem akJ{bl:List (az E.T.El)}{sel us:List Nat}:∀ {ws:List iV}{o:Option (r4 E.T.El ws)}{t:b1 E.T.El},(yL E bl sel us ws o).out t->∃r,o=some r/\(yL E bl sel us ws (some r)).out t
 |[],o,t,h=>h.elim
 |[w],o,t,h=>by obtain⟨d,a,al⟩:=h;exact⟨d,a,d,rfl,al⟩
 |w::v::r,o,t,h=>by rcases h with⟨d,a,al⟩|⟨d,a,al⟩;exact⟨_,a,.inl ⟨d,rfl,al⟩⟩;exact⟨_,a,.inr ⟨d,rfl,al⟩⟩
theorem Mw{pbs:List bB}:∀ {ws:List iV}{w:iV},yG pbs ws=true->w∈ws->ib pbs w.c9=true/\oh pbs w.c9=true
 |[],w,_,h=>by simp at h
 |v::r,w,h,hm=>by simp only[yG,bM]at h;rcases cU.1 hm with rfl |hm;exact h.1;exact Mw h.2 hm
theorem aja(aP:cJ E)(aG:gH E a4)(ew:iA E){n:cm}{M:Nat}{body:Code}(aq:hU E LE n body){c:hb E.T}(he:c.mv E a4 LE n.n M body)(F:Nat):xk E n (c.run E F) (.block M (.loop body)):=by
 intro s t o W au X b0 ρ0 w0 ρ a w Q h k;unfold hb.run at o;split at o
 ·rename_i ys A7;cases kW:gl [] c.bf c.pbs s.bl ys with
  |mk bl cF=>
  rw[kW]at o;simp only at o;obtain⟨f,P,N,ai⟩:=vv h.r.mem kW (yF h.r (cur:=[]) trivial A7);split at o
  ·rename_i d sel TD fl;simp only[bM]at TD;obtain⟨kl,S4,S⟩:=TD;obtain⟨aH,aJ⟩:=d;obtain⟨ia,A2,J⟩:=akJ o;obtain⟨ap,_,lW⟩:=sD P vm fl;obtain⟨qz,q⟩:=x0 vm fl;obtain⟨fy,bK⟩:=lW (aY (iE X bl f sel) (bA id (cl false c.pbs) false c.pbs aJ) (gp f sel) w) λ k q=>ap.tS q;have ki:=ap.enter P bK;have A4:=fy _ ai;have r:(gp f sel).length=c.pbs.length:=by rw[ap.len,mc]
   have leave:∀(b:iV),b∈c.ws->∀(A:c8 E.T.El b.ea)(C:ct E.T.El b.c9)(g:List Value)(a':Act)(w':World),a'.tmps.size=n.n->a'.defers=n.ds ->
    Told E w (gL (bA id (cl false c.pbs) false c.pbs aJ) (gp f sel)) (iE X bl f sel) b.eS b.ea b.c9 A C g a' w' true ->
    To (iE X bl f sel) (bA id (cl false c.pbs) false c.pbs aJ) (bA id (cl true b.c9) true b.c9 C) (gp f sel) g w w' ->
    t=⟨C5 b.x,⟨⟨rX b.eS (fq (hL sel bl.length) (eK bl sel b.c9) b.ea A),[],[]⟩,fx bl sel b.c9 C,sel++s.ws⟩⟩ ->
    mz E X t.s.bl (fo f sel g) Q a' w' (C5 b.x):=λ b T A C g a' w' U V G K aF=>by
    obtain⟨L,gm⟩:=Mw kl T
    obtain⟨bt,dN,fQ,gh⟩:=back (gq:=cl true b.c9) P ap qz (λ j i B p h h' sF=>by obtain⟨B',O,al,_⟩:=q j i p h sF;rw[h']at O;cases O;exact Ln L sF al) L (λ i hi=>by obtain⟨j,aA,rfl⟩:=jk.1 hi;obtain⟨B,O,_⟩:=q j _ _ (bx aA) (bx (by omega:j<c.pbs.length));exact(bg.1 O).1) (λ j=>rfl) G.1 K
    have EQ:=gh b.ea A _ G.2
    have yi:eH s.bl ρ w w' sel:=by have:=eH.nil.cc N fQ;rwa [jb]at this
    have:=k (fo f sel g) a' w' (by subst aF;exact⟨⟨bt,⟨⟨U,V,λ t y hy=>Pa EQ hy⟩,λ p v=>by simp at v,λ p v=>by simp at v⟩,iB.to (iB.to h.r.eg N) dN⟩,h.to.trans (N.trans dN),h.wr.cc h.to yi⟩)
    rw[aF]at this⊢
    exact this
   refine wp_block (wp_loop_ghost (λ m a' w'=>∃(ss:c8 E.T.El c.bf)(z:ct E.T.El c.pbs)(ρ':List Value),a'.tmps.size=n.n/\a'.defers=n.ds/\Told E w (gL (bA id (cl false c.pbs) false c.pbs aJ) (gp f sel)) (iE X bl f sel) c.eS c.bf c.pbs ss z ρ' a' w' false/\
    To (iE X bl f sel) (bA id (cl false c.pbs) false c.pbs aJ) (bA id (cl true c.pbs) true c.pbs z) (gp f sel) ρ' w w'/\c.fn m (ss,z)=some ia) F ⟨aH,aJ,gp f sel,h.r.db.dX.size,h.r.db.dX.defers,⟨ki,A4⟩,anm,A2⟩ λ m a' w' jE=>?_)
   obtain⟨ss,z,ρ',U,V,G,K,Y⟩:=jE;cases m with
   |zero=>rw[he.zero]at Y;cases Y
   |succ m=>
    obtain⟨Z,hq,l⟩:=D.rG (he.succ _ _ _ _ Y);have EG:ρ'.length=c.pbs.length:=by rw[G.1.len,mc]
    have dt:R E w (gL (bA id (cl false c.pbs) false c.pbs aJ) (gp f sel)) (iE X bl f sel) n (sK E c ss z).f (sK E c ss z).bl ρ' a' w':=⟨G.1,⟨⟨U,V,λ t y hy=>Pa G.2 hy⟩,λ p v=>by simp[sK]at v,λ p v=>by simp[sK]at v⟩,iB.enter ew (iB.to (iB.enter ew (iB.to h.r.eg N) λ k q=>ap.tS q) K) λ k q=>ND q⟩
    refine i_ (b0:=(sK E c ss z).bl) (ρ0:=ρ') (w0:=w') aP aG body aq hq ⟨dt,.refl,.nil⟩ λ uA HH wX u=>?_;have out:∀x,wY E c.pbs.length x Z.s.bl Z.s.f c.ws=some ia->∃(b:iV)(g:List Value),mz E X t.s.bl (fo f sel g) Q HH wX (C5 b.x)/\b.x=x:=λ x H=>by obtain⟨b,A,C,ba,bw,bL,e3⟩:=W8 H;obtain⟨L,gm⟩:=Mw kl ba;obtain⟨g,dn,gO⟩:=V4 u.r EG L u.to bL;have J:=e3 _ _ _ _ J;exact⟨b,g,leave b ba A C g HH wX u.r.db.dX.size u.r.db.dX.defers (dn true) (WD L gm r K gO) J.symm,bw⟩
    unfold hb.fin at l;cases H:Z.x with
    |nm=>rw[H]at l;simp only at l;split at l;rename_i st Kf;obtain⟨g,dn,gO⟩:=V4 u.r EG S4 u.to Kf;exact⟨m,kA m,st.1,st.2,g,u.r.db.dX.size,u.r.db.dX.defers,dn false,WD S4 S r K gO,l⟩;cases l
    |ex i=>
     rw[H]at l;obtain⟨b,g,I,J⟩:=out _ l;show Exit.inBlock M Q (.exit i) HH wX
     unfold Sb at J;split at J;rename_i ag;rw[a8 ag];simp only[Exit.inBlock,if_true];rw[J]at I;exact I
     ·rename_i ag;have bH:i≠M:=λ e=>by subst e;simp at ag
      simp only[Exit.inBlock,lG bH];rw[J]at I;exact I
    |rt=>rw[H]at l;obtain⟨b,g,I,J⟩:=out _ l;rw[J]at I;exact I
    |eR y=>rw[H]at l;cases l
  ·exact o.elim
 ·exact o.elim
end
def gk(i:Nat):Code->Option Code
 | .seq x y=>match gk i x with
   |some b=>some b
   |none=>gk i y
 | .cond _ x y=>match gk i x with
   |some b=>some b
   |none=>gk i y
 | .block id c=>match b2 id i with
   |true=>match c with
    | .loop b=>some b
    |_=>none
   |false=>gk i c
 | .loop c=>gk i c
 | .scope c=>gk i c
 |_=>none
def gU(i:Nat):Code->Nat
 | .seq x y=>gU i x+gU i y
 | .cond _ x y=>gU i x+gU i y
 | .block id c=>match b2 id i with
   |true=>gU i c+1
   |false=>gU i c
 | .loop c=>gU i c
 | .scope c=>gU i c
 |_=>0
def oI(E:Env)(i:Nat)(g:dg E.T.El->D (b1 E.T.El))(n:cm):Code->Prop
 | .seq x y=>oI E i g n x/\oI E i g n y
 | .cond _ x y=>oI E i g n x/\oI E i g n y
 | .block id c=>(id=i->xk E n g (.block id c))/\oI E i g n c
 | .loop c=>oI E i g n c
 | .scope c=>oI E i g n c
 |_=>True
section
variable{E:Env}{LE:js E}{n:cm}{i:Nat}{g:dg E.T.El->D (b1 E.T.El)}
theorem m5:∀ {c:Code},gU i c=0 ->oI E i g n c
 | .seq x y,h=>by simp only[gU]at h;exact⟨m5 (by omega),m5 (by omega)⟩
 | .cond _ x y,h=>by simp only[gU]at h;exact⟨m5 (by omega),m5 (by omega)⟩
 | .block id c,h=>by simp only[gU]at h;split at h;omega;rename_i ag;exact⟨λ e=>by subst e;simp at ag,m5 h⟩
 | .loop c,h=>m5 (c:=c) h
 | .scope c,h=>m5 (c:=c) h
 | .skip,_ | .region _ _ _,_ | .rangeFunc _ _ _ _,_ | .exit _,_ | .label _,_ | .goto _,_ | .ret,_ | .refuse _,_=>trivial
theorem nQ:∀ {c b:Code},gk i c=some b->0<gU i c
 | .seq x y,b,h=>by simp only[gk]at h;simp only[gU];split at h;rename_i I;have:=nQ I;omega;have:=nQ h;omega
 | .cond _ x y,b,h=>by simp only[gk]at h;simp only[gU];split at h;rename_i I;have:=nQ I;omega;have:=nQ h;omega
 | .block id c,b,h=>by simp only[gk]at h;simp only[gU];split at h;omega;exact nQ h
 | .loop c,b,h=>by simp only[gU];exact nQ (c:=c) h
 | .scope c,b,h=>by simp only[gU];exact nQ (c:=c) h
 | .skip,_,h | .region _ _ _,_,h | .rangeFunc _ _ _ _,_,h | .exit _,_,h | .label _,_,h | .goto _,_,h | .ret,_,h | .refuse _,_,h=>by simp[gk]at h
theorem s5{b:Code}(d:xk E n g (.block i (.loop b))):∀ {c:Code},gU i c<=1 ->gk i c=some b->oI E i g n c
 | .seq x y,h,a=>by simp only[gU]at h;simp only[gk]at a;split at a;rename_i I;have:=nQ I;simp only[aM]at a;subst a;exact⟨s5 d (by omega) I,m5 (by omega)⟩;have:=nQ a;exact⟨m5 (by omega),s5 d (by omega) a⟩
 | .cond _ x y,h,a=>by simp only[gU]at h;simp only[gk]at a;split at a;rename_i I;have:=nQ I;simp only[aM]at a;subst a;exact⟨s5 d (by omega) I,m5 (by omega)⟩;have:=nQ a;exact⟨m5 (by omega),s5 d (by omega) a⟩
 | .block id c,h,a=>by simp only[gU]at h;simp only[gk]at a;split at a;rename_i ag;rw[ag]at h;have e:=a8 ag;subst e;split at a;simp only[aM]at a;subst a;exact⟨λ _=>d,m5 (by simp only at h;omega)⟩;cases a;rename_i ag;rw[ag]at h;exact⟨λ e=>by subst e;simp at ag,s5 d h a⟩
 | .loop c,h,a=>s5 (c:=c) d h a
 | .scope c,h,a=>s5 (c:=c) d h a
 | .skip,_,h | .region _ _ _,_,h | .rangeFunc _ _ _ _,_,h | .exit _,_,h | .label _,_,h | .goto _,_,h | .ret,_,h | .refuse _,_,h=>by simp[gk]at h
theorem s0{d:js E}(hi:i<1000000)(ec:∀j h,d j=some h->(j=i/\h=g)\/LE j=some h):∀ {c:Code},hU E LE n c->oI E i g n c->hU E d n c
 | .seq x y,h,h'=>⟨(λ q r b a e=>by
   unfold BO at a;split at a;rename_i id _;rcases ec _ q a with⟨f,_⟩|al;omega;exact h.1 q r b al e
   ·cases a),s0 hi ec h.2.1 h'.1,s0 hi ec h.2.2 h'.2⟩
 | .cond _ x y,h,h'=>⟨s0 hi ec h.1 h'.1,s0 hi ec h.2 h'.2⟩
 | .block id c,h,h'=>⟨λ q a=>by
   rcases ec id q a with⟨f,al⟩|e;rw[al];exact h'.1 f
   ·exact h.1 q e,s0 hi ec h.2 h'.2⟩
 | .loop c,h,h'=>s0 (c:=c) hi ec h h'
 | .scope c,h,h'=>s0 (c:=c) hi ec h h'
 | .skip,_,_ | .region _ _ _,_,_ | .rangeFunc _ _ _ _,_,_ | .exit _,_,_ | .label _,_,_ | .goto _,_,_ | .ret,_,_ | .refuse _,_,_=>trivial
def hG:Code->List (Nat×Code×Code)
 | .seq x y=>(match x,y with
   | .seq (.region a b c) (.block id d),.seq r _=>[(id,.seq (.region a b c) (.block id d),r)]
   |_,_=>[])++hG x++hG y
 | .cond _ x y=>hG x++hG y
 | .block _ c=>hG c
 | .loop c=>hG c
 | .scope c=>hG c
 |_=>[]
def lY:Code->Bool
 | .seq x y=>lY x&&lY y
 | .cond _ x y=>lY x&&lY y
 | .block id c=>eh id 1000000&&lY c
 | .loop c=>lY c
 | .scope c=>lY c
 |_=>true
theorem s3{p:js E}(ec:∀j h,p j=some h->(j=1000000+i/\h=g)\/LE j=some h):∀ {c:Code},(∀x r,(i,x,r)∈hG c->Du E n g x r)->lY c=true->hU E LE n c->hU E p n c
 | .seq x y,l,ag,h=>by
   simp only[lY,bM]at ag;refine⟨λ q r o m e=>?_,s3 ec (λ f e4 k=>l f e4 (by simp only[hG];simp[k])) ag.1 h.2.1,s3 ec (λ f e4 k=>l f e4 (by simp only[hG];simp[k])) ag.2 h.2.2⟩;unfold BO at m;split at m
   ·rename_i a b c id d;rcases ec _ q m with⟨s,al⟩|al
    ·have:id=i:=by omega
     subst this;subst e;rw[al];exact l _ _ (by simp only[hG];simp)
    ·exact h.1 q r o al e
   ·cases m
 | .cond _ x y,l,ag,h=>by simp only[lY,bM]at ag;exact⟨s3 ec (λ f e4 k=>l f e4 (by simp only[hG];simp[k])) ag.1 h.1,s3 ec (λ f e4 k=>l f e4 (by simp only[hG];simp[k])) ag.2 h.2⟩
 | .block id c,l,ag,h=>by simp only[lY,bM]at ag;refine⟨λ q m=>?_,s3 ec (λ f e4 k=>l f e4 (by simpa only[hG]using k)) ag.2 h.2⟩;rcases ec id q m with⟨s,_⟩|e;have:=b_ ag.1;omega;exact h.1 q e
 | .loop c,l,ag,h=>s3 (c:=c) ec (λ f e4 k=>l f e4 (by simpa only[hG]using k)) ag h
 | .scope c,l,ag,h=>s3 (c:=c) ec (λ f e4 k=>l f e4 (by simpa only[hG]using k)) ag h
 | .skip,_,_,_ | .region _ _ _,_,_,_ | .rangeFunc _ _ _ _,_,_,_ | .exit _,_,_,_ | .label _,_,_,_ | .goto _,_,_,_ | .ret,_,_,_ | .refuse _,_,_,_=>trivial
theorem s4:∀ {c b:Code},hU E LE n c->gk i c=some b->hU E LE n b
 | .seq x y,b,h,a=>by simp only[gk]at a;split at a;rename_i I;simp only[aM]at a;subst a;exact s4 h.2.1 I;exact s4 h.2.2 a
 | .cond _ x y,b,h,a=>by simp only[gk]at a;split at a;rename_i I;simp only[aM]at a;subst a;exact s4 h.1 I;exact s4 h.2 a
 | .block id c,b,h,a=>by simp only[gk]at a;split at a;split at a;simp only[aM]at a;subst a;exact h.2;cases a;exact s4 h.2 a
 | .loop c,b,h,a=>s4 (c:=c) h a
 | .scope c,b,h,a=>s4 (c:=c) h a
 | .skip,_,_,h | .region _ _ _,_,_,h | .rangeFunc _ _ _ _,_,_,h | .exit _,_,_,h | .label _,_,_,h | .goto _,_,_,h | .ret,_,_,h | .refuse _,_,_,h=>by simp[gk]at h
end
structure dM (E:Env) where
 ce:List (Nat×(List (aE E.T.El)->List (az E.T.El)->D (eX E.T.El)))
 le:List (Nat×Nat×(dg E.T.El->D (b1 E.T.El)))
def E'{E:Env}:List (Nat×Nat×(dg E.T.El->D (b1 E.T.El)))->ig E
 |[],_,_=>none
 |p::r,g,i=>match b2 p.1 g&&b2 p.2.1 i with
  |true=>some p.2.2
  |false=>E' r g i
def LO{E:Env}:List (Nat×(List (aE E.T.El)->List (az E.T.El)->D (eX E.T.El)))->xd E
 |[],_=>none
 |p::r,g=>match b2 p.1 g with
  |true=>some p.2
  |false=>LO r g
def dM.iS{E:Env}(t:dM E):xd E:=LO t.ce
def dM.LE{E:Env}(t:dM E):ig E:=E' t.le
def dM.a4{E:Env}(t:dM E):dW E:=xW E t.iS t.LE 100
def dM.f{E:Env}(t:dM E)(g:Nat)(h:List (aE E.T.El)->List (az E.T.El)->D (eX E.T.El)):dM E:=⟨(g,h)::t.ce,t.le⟩
def dM.l{E:Env}(t:dM E)(g i:Nat)(h:dg E.T.El->D (b1 E.T.El)):dM E:=⟨t.ce,(g,i,h)::t.le⟩
structure dM.dR {E:Env} (t:dM E):Prop where
 ce:Dj E t.iS
 le:oJ E t.LE
def e6.fit(E:Env)(c:e6 E.T)(ys:List (aE E.T.El))(bl:List (az E.T.El)):Bool:=match gl [] c.bf c.pbs bl ys with
 |(a,b)=>match gY a [] false c.bf c.pbs b with
  |some _=>true
  |none=>false
def hb.fit(E:Env)(c:hb E.T)(s:dg E.T.El):Bool:=match ma E s.bl s.f [] (c.eS.map .tmp)with
 |some ys=>match gl [] c.bf c.pbs s.bl ys with
  |(a,b)=>match gY a [] false c.bf c.pbs b with
   |some _=>true
   |none=>false
 |none=>false
def lL(P:Program)(g:Nat):Code:=match P.funcs[g]? with
 |some fn=>match fn.body with
  |some c=>c
  |none=>.skip
 |none=>.skip
def oT(P:Program)(g i:Nat):Code:=match gk i (lL P g)with
 |some b=>b
 |none=>.skip
def ky(P:Program)(g:Nat):Nat:=match P.funcs[g]? with
 |some fn=>fn.ntmps
 |none=>0
def tM(P:Program)(g i:Nat):Bool:=match gk i (lL P g)with
 |some _=>hR (gU i (lL P g)) 1&&eh i 1000000
 |none=>false
section
variable{E:Env}{t:dM E}
theorem dM.dR.oR(h:t.dR){f:Nat}{r:List (aE E.T.El)->List (az E.T.El)->D (eX E.T.El)}(b:eE E.b3 f=true)(hc:jt E f r):(t.f f r).dR:=by
 have key:∀g q,(t.f f r).iS g=some q->(g=f/\q=r)\/t.iS g=some q:=λ g q a=>by simp only[dM.iS,dM.f,LO]at a;split at a;rename_i ag;simp only[aM]at a;exact .inl ⟨(a8 ag).symm,a.symm⟩;exact .inr a
 refine⟨⟨λ g q a=>?_,λ g q a=>?_⟩,h.le⟩;rcases key g q a with⟨rfl,_⟩|e;exact lZ b;exact h.ce.b3 g q e;rcases key g q a with⟨rfl,rfl⟩|e;exact hc;exact h.ce.ok g q e
theorem dM.dR.fn(a:cJ E)(b:iA E)(h:t.dR){f:Nat}(d:eE E.b3 f=true){c:e6 E.T}(e:c.Eq E t.a4 t.LE f):(t.f f (c.run E)).dR:=h.oR d (QD a (lP a h.ce h.le 100) h.le b e)
theorem dM.dR.PI(p:cJ E)(h:t.dR){g i:Nat}(I:tM E.P g i=true){r:dg E.T.El->D (b1 E.T.El)}(a:g∈E.b3->xk E ⟨ky E.P g,[]⟩ r (.block i (.loop (oT E.P g i)))):(t.l g i r).dR:=by
 refine⟨h.ce,λ g' fn k e9 f l=>?_⟩;have c:=h.le g' fn k e9 f l;by_cases e:g'=g
 ·subst e;have n:lL E.P g'=k:=by unfold lL;rw[f];simp only;rw[l]
  have o:ky E.P g'=fn.ntmps:=by unfold ky;rw[f]
  have a:=a e9;unfold tM at I;unfold oT at a;rw[n]at I a;rw[o]at a;split at I;rename_i b ag;rw[ag]at a;simp only at a;simp only[bM]at I;refine s0 (i:=i) (b_ I.2) (λ j q d=>?_) c (s5 a (b_ I.1) ag);simp only[dM.LE,dM.l,E']at d;split at d;rename_i m;simp only[bM]at m;simp only[aM]at d;exact .inl ⟨(a8 m.2).symm,d.symm⟩;exact .inr d;cases I
 ·have same:∀j,(t.l g i r).LE g' j=t.LE g' j:=λ j=>by
   simp only[dM.LE,dM.l,E'];have:b2 g g'=false:=by rw[gA];intro ag;exact e (a8 ag).symm
   rw[this];rfl
  have:(t.l g i r).LE g'=t.LE g':=funext same;rw[this];exact c
theorem dM.dR.SS(f:cJ E)(k:iA E)(h:t.dR){g i:Nat}(I:tM E.P g i=true){c:hb E.T}(d:c.mv E t.a4 (t.LE g) (ky E.P g) i (oT E.P g i))(F:Nat):g∈E.b3->xk E ⟨ky E.P g,[]⟩ (c.run E F) (.block i (.loop (oT E.P g i))):=λ l=>by
 unfold tM at I;split at I
 ·rename_i b ag;have e:oT E.P g i=b:=by unfold oT;rw[ag]
  rw[e]at d⊢;unfold lL at ag;split at ag
  ·rename_i fn j;split at ag
   ·rename_i m o;have a:=h.le g fn m l j o;have p:ky E.P g=fn.ntmps:=by unfold ky;rw[j]
    rw[p]at d⊢;exact aja (n:=⟨fn.ntmps,[]⟩) f (lP f h.ce h.le 100) k (s4 a ag) d F
   ·simp[gk]at ag
  ·simp[gk]at ag
 ·cases I
theorem dM.dR.LS(a:cJ E)(b:iA E)(h:t.dR){g i:Nat}(I:tM E.P g i=true){c:hb E.T}(d:c.Eq E t.a4 (t.LE g) (ky E.P g) i (oT E.P g i))(F:Nat):(t.l g i (c.run E F)).dR:=h.PI a I (h.SS a b I d.one F)
theorem dM.dR.iZ(a:cJ E)(b:iA E)(h:t.dR){f:Nat}(d:eE E.b3 f=true){c:ju E.T}(e:c.Eq E t.a4 t.LE f):(t.f f (c.run E)).dR:=h.oR d (ab1 a (lP a h.ce h.le 100) h.le b e.one)
end
structure hg (T:bD) where
 bf:List cW
 pbs:List bB
 ea:List cW
 c9:List bB
 R:Type
 fn:c8 T.El bf×ct T.El pbs->Option R
 kI:c8 T.El bf×ct T.El pbs->R->c8 T.El ea×ct T.El c9
def hg.gV{T:bD}(c:hg T):e6 T:=⟨c.bf,c.pbs,c.ea,c.c9,λ d=>(c.fn d).map (c.kI d)⟩
def hg.run(E:Env)(c:hg E.T)(ys:List (aE E.T.El))(bl:List (az E.T.El)):D (eX E.T.El):=match gl [] c.bf c.pbs bl ys with
 |(a,b)=>match ib c.pbs c.c9,gY a [] false c.bf c.pbs b with
  |true,some (d,sel)=>.op (c.fn d) λ r=>.ok ⟨.ret (jT (fq (hL sel a.length) (eK a sel c.c9) c.ea (c.kI d r).1)),fx a sel c.c9 (c.kI d r).2,sel⟩
  |_,_=>.no
def hg.ab0{T:bD}(c:hg T)(d:c8 T.El c.bf×ct T.El c.pbs)(r:c.R):c8 T.El c.ea×ct T.El c.c9:=c.kI d r
def hg.Eq(E:Env)(a4:dW E)(LE:ig E)(f:Nat)(c:hg E.T):Prop:=∀(aH:c8 E.T.El c.bf)(aJ:ct E.T.El c.pbs),(kP E a4 LE f (fq id (cl false c.pbs) c.bf aH) (bA id (cl false c.pbs) false c.pbs aJ)).run c.gV.fin=(c.fn (aH,aJ)).map (c.ab0 (aH,aJ))
structure fw (T:bD) (bf:List cW) (pbs:List bB) where
 w:iV
 R:Type
 kI:c8 T.El bf×ct T.El pbs->R->zx T.El w
@[reducible] def zF{T:bD}{bf:List cW}{pbs:List bB}:List (fw T bf pbs)->Type
  |[]=>Empty
  |[w]=>w.R
  |w::v::r=>w.R⊕zF (v::r)
@[reducible] def y'{T:bD}{bf:List cW}{pbs:List bB}:List (fw T bf pbs)->List iV
  |[]=>[]
  |w::r=>w.w::y' r
def bY{T:bD}{bf:List cW}{pbs:List bB}(d:c8 T.El bf×ct T.El pbs):(ws:List (fw T bf pbs))->zF ws->r4 T.El (y' ws)
 |[],r=>r.elim
 |[w],r=>w.kI d r
 |w::v::ws,r=>match r with
  | .inl a=>.inl (w.kI d a)
  | .inr b=>.inr (bY d (v::ws) b)
structure bN (T:bD) where
 eS:List Nat
 bf:List cW
 pbs:List bB
 ws:List (fw T bf pbs)
 fn:Nat->c8 T.El bf×ct T.El pbs->Option (zF ws)
def bN.wi{T:bD}(c:bN T):hb T:=⟨c.eS,c.bf,c.pbs,y' c.ws,λ k d=>(c.fn k d).map λ r=>bY d c.ws r⟩
def MJ(E:Env){bf:List cW}{pbs:List bB}(bl:List (az E.T.El))(sel us:List Nat)(d:c8 E.T.El bf×ct E.T.El pbs):(ws:List (fw E.T bf pbs))->Option (zF ws)->D (b1 E.T.El)
 |[],_=>.no
 |[w],o=>.op o λ r=>F1 E bl sel us w.w (w.kI d r)
 |w::v::ws,o=>.pL o (λ r=>F1 E bl sel us w.w (w.kI d r)) (λ q=>MJ E bl sel us d (v::ws) (some q))
def bN.run(E:Env)(F:Nat)(c:bN E.T)(s:dg E.T.El):D (b1 E.T.El):=match ma E s.bl s.f [] (c.eS.map .tmp)with
 |some ys=>match gl [] c.bf c.pbs s.bl ys with
  |(a,b)=>match yG c.pbs (y' c.ws)&&(ib c.pbs c.pbs&&oh c.pbs c.pbs),gY a [] false c.bf c.pbs b with
   |true,some (d,sel)=>MJ E a sel s.ws d c.ws (c.fn F d)
   |_,_=>.no
 |none=>.no
def dM.z_{E:Env}(t:dM E)(g:Nat)(c:hg E.T):dM E:=t.f g λ ys bl=>match c.gV.fit E ys bl with
 |true=>c.run E ys bl
 |false=>t.a4 g ys bl
structure zK (T:bD) (bf:List cW) (pbs:List bB) where
 w:j5
 R:Type
 kI:c8 T.El bf×ct T.El pbs->R->xh T.El w
@[reducible] def Dv{T:bD}{bf:List cW}{pbs:List bB}:List (zK T bf pbs)->Type
  |[]=>Empty
  |[w]=>w.R
  |w::v::r=>w.R⊕Dv (v::r)
@[reducible] def Gn{T:bD}{bf:List cW}{pbs:List bB}:List (zK T bf pbs)->List j5
  |[]=>[]
  |w::r=>w.w::Gn r
def H8{T:bD}{bf:List cW}{pbs:List bB}(d:c8 T.El bf×ct T.El pbs):(ws:List (zK T bf pbs))->Dv ws->r3 T.El (Gn ws)
 |[],r=>r.elim
 |[w],r=>w.kI d r
 |w::v::ws,r=>match r with
  | .inl a=>.inl (w.kI d a)
  | .inr b=>.inr (H8 d (v::ws) b)
structure xw (T:bD) where
 bf:List cW
 pbs:List bB
 ws:List (zK T bf pbs)
 fn:c8 T.El bf×ct T.El pbs->Option (Dv ws)
def xw.iZ{T:bD}(c:xw T):ju T:=⟨c.bf,c.pbs,Gn c.ws,λ d=>(c.fn d).map λ r=>H8 d c.ws r⟩
def V'(E:Env){bf:List cW}{pbs:List bB}(bl:List (az E.T.El))(sel:List Nat)(d:c8 E.T.El bf×ct E.T.El pbs):(ws:List (zK E.T bf pbs))->Option (Dv ws)->D (eX E.T.El)
 |[],_=>.no
 |[w],o=>.op o λ r=>B7 E bl sel w.w (w.kI d r)
 |w::v::ws,o=>.pL o (λ r=>B7 E bl sel w.w (w.kI d r)) (λ q=>V' E bl sel d (v::ws) (some q))
def xw.run(E:Env)(c:xw E.T)(ys:List (aE E.T.El))(bl:List (az E.T.El)):D (eX E.T.El):=match gl [] c.bf c.pbs bl ys with
 |(a,b)=>match BI c.pbs (Gn c.ws),gY a [] false c.bf c.pbs b with
  |true,some (d,sel)=>V' E a sel d c.ws (c.fn d)
  |_,_=>.no
def xw.Eq(E:Env)(a4:dW E)(LE:ig E)(f:Nat)(c:xw E.T):Prop:=∀(aH:c8 E.T.El c.bf)(aJ:ct E.T.El c.pbs),(kP E a4 LE f (fq id (cl false c.pbs) c.bf aH) (bA id (cl false c.pbs) false c.pbs aJ)).run c.iZ.fin=(c.fn (aH,aJ)).map λ r=>H8 (aH,aJ) c.ws r
def lf(T:bD)(t bF:Nat):hg T:=⟨[.p (.l t)],[],[.p (.R 0)],[.r t false],List (T.El t),λ d=>cc bF [] d.1.1,λ _ r=>(((),()),(r,()))⟩
section
variable{E:Env}{t:dM E}
theorem yX{c:hg E.T}{ys:List (aE E.T.El)}{bl:List (az E.T.El)}{r:eX E.T.El}(h:(c.run E ys bl).out r):(c.gV.run E ys bl).out r:=by
 unfold hg.run at h;unfold e6.run hg.gV;dsimp only;cases a:gl [] c.bf c.pbs bl ys with
 |mk d e=>
 rw[a]at h;dsimp only at h⊢;split at h;rename_i I J;rw[I,J];obtain⟨q,b,al⟩:=h;exact⟨_,by rw[b];rfl,al⟩;exact h.elim
theorem VA{bf:List cW}{pbs:List bB}{bl:List (az E.T.El)}{sel us:List Nat}{d:c8 E.T.El bf×ct E.T.El pbs}:∀ {ws:List (fw E.T bf pbs)}{o:Option (zF ws)}{r:b1 E.T.El},(MJ E bl sel us d ws o).out r->(yL E bl sel us (y' ws) (o.map (bY d ws))).out r
 |[],o,r,h=>h.elim
 |[w],o,r,h=>by obtain⟨q,a,al⟩:=h;exact⟨_,by rw[a];rfl,al⟩
 |w::v::ws,o,r,h=>by rcases h with⟨q,a,al⟩|⟨q,a,al⟩;exact .inl ⟨_,by rw[a];rfl,al⟩;exact .inr ⟨_,by rw[a];rfl,VA al⟩
theorem ajb{c:bN E.T}{F:Nat}{s:dg E.T.El}{r:b1 E.T.El}(h:(c.run E F s).out r):(c.wi.run E F s).out r:=by
 unfold bN.run at h;unfold hb.run bN.wi;dsimp only at h⊢;cases hy:ma E s.bl s.f [] (c.eS.map .tmp)with
 |none=>rw[hy]at h;exact h.elim
 |some ys=>
  rw[hy]at h;dsimp only at h⊢;cases a:gl [] c.bf c.pbs s.bl ys with
  |mk b d=>
  rw[a]at h;dsimp only at h⊢;cases I:yG c.pbs (y' c.ws)&&(ib c.pbs c.pbs&&oh c.pbs c.pbs)with
  |false=>rw[I]at h;exact h.elim
  |true=>
   cases J:gY b [] false c.bf c.pbs d with
   |none=>rw[I,J]at h;exact h.elim
   |some ds=>rw[I,J]at h;exact VA h
theorem dM.dR.rt(a:cJ E)(b:iA E)(h:t.dR){f:Nat}(d:eE E.b3 f=true){c:hg E.T}(e:c.Eq E t.a4 t.LE f):(t.f f (c.run E)).dR:=h.oR d λ ys bl r g=>zZ a (lP a h.ce h.le 100) h.le b (c:=c.gV) (e6.Eq.v e) ys bl r (yX g)
theorem dM.dR.b4(a:cJ E)(b:iA E)(h:t.dR){g i:Nat}(I:tM E.P g i=true){c:bN E.T}(d:c.wi.mv E t.a4 (t.LE g) (ky E.P g) i (oT E.P g i))(F:Nat):(t.l g i (c.run E F)).dR:=h.PI a I λ e s r f=>h.SS a b I d F e s r (ajb f)
theorem dM.dR.ad'(a:cJ E)(d:iA E)(h:t.dR){f:Nat}(e:eE E.b3 f=true){c:hg E.T}(g:c.Eq E t.a4 t.LE f):(t.z_ f c).dR:=by refine h.oR e λ ys bl r b=>?_;split at b;exact zZ a (lP a h.ce h.le 100) h.le d (c:=c.gV) (e6.Eq.v g) ys bl r (yX b);exact((lP a h.ce h.le 100).ok f ys bl r b).2
theorem dM.dR.F9(j:cJ E)(o:iA E)(h:t.dR){f b bF:Nat}(p:eE E.b3 f=true)
 (q:(kP E t.a4 t.LE f [.p (.slice none 0 0)] []).run (lf E.T b bF).gV.fin=some (((),()),([],())))
 (I:∀(a:Addr)(c:Nat),(kP E t.a4 t.LE f [.p (.slice (some a) 0 c)] []).run (lf E.T b bF).gV.fin=some (((),()),([],())))
 (J:∀(d:E.T.El b)(l:List (E.T.El b)),(kP E t.a4 t.LE f [.s b (d::l)] []).run (lf E.T b bF).gV.fin=(cc bF [] (d::l)).bind λ r=>some (((),()),(r,()))):(t.f f ((lf E.T b bF).run E)).dR:=by
 refine h.oR p λ ys bl r s=>zZ j (lP j h.ce h.le 100) h.le o (c:=(lf E.T b bF).gV) (λ aH aJ F w ρ bl vs k=>?_) ys bl r (yX s)
 obtain⟨l,⟨⟩⟩:=aH
 have v:cc bF ([]:List (E.T.El b)) []=some []:=by simp[cc]
 have m:∀l:List (E.T.El b),(lf E.T b bF).gV.fn ((l,()),aJ)=(cc bF [] l).bind λ r=>some (((),()),(r,())):=λ l=>by
  show eV _ (cc bF [] l)=_
  cases cc bF ([]:List (E.T.El b)) l<;>rfl
 cases l with
 |cons d l=>exact⟨_,k,λ r g=>(J d l).trans ((m _).symm.trans g)⟩
 |nil=>
  have n:aR E.T F w ρ bl [.s b []] vs:=k;simp only[aR,ar]at n;obtain⟨u,us,rfl,x,rfl⟩:=n;obtain⟨A,c,e,y,al,aN,_⟩:=x;simp only[hH,and_true]at e;subst e;have i:=m [];rw[v]at i;cases A with
  |none=>rw[aN rfl];exact⟨[.p (.slice none 0 0)],by simp[aR,ar],λ r g=>q.trans (i.symm.trans g)⟩
  |some a=>exact⟨[.p (.slice (some a) 0 c)],by simp[aR,ar],λ r g=>(I a c).trans (i.symm.trans g)⟩
end
end a9
namespace ad
def bb{ρ α:Type}(o:Option (Way ρ α)):Option (α⊕ρ):=match o with
 |none=>none
 |some (.go a)=>some (.inl a)
 |some (.out r)=>some (.inr r)
def dx{α:Type}(p:Prop)(o:Option α):Option α:=@ite _ p (Classical.propDecidable p) o none
theorem dZ{α:Type}{p:Prop}{o:Option α}(h:p):dx p o=o:=by unfold dx;exact lH h
theorem dY{α:Type}{p:Prop}:dx p (none:Option α)=none:=by unfold dx;split<;>rfl
theorem en{α:Type}{p:Prop}{o:Option α}{r:α}(h:dx p o=some r):p/\o=some r:=by unfold dx at h;split at h;rename_i a;exact⟨a,h⟩;cases h
section
variable{α β cx pV ρ σ:Type}
theorem ajP(o:Option (Way ρ α))(k:α->Option (Way ρ β)):c5 o k=dK (bb o) k (λ r=>some (.out r)):=by
 cases o with
 |none=>rfl
 |some y=>cases y<;>rfl
theorem aj0(o:Option (Way ρ α))(k:α->Option ρ):cO o k=dK (bb o) k (λ r=>some r):=by
 cases o with
 |none=>rfl
 |some y=>cases y<;>rfl
theorem aj7(a:α):bb (some (.go a):Option (Way ρ α))=some (.inl a):=rfl
theorem aj8(r:ρ):bb (some (.out r):Option (Way ρ α))=some (.inr r):=rfl
theorem aj9:bb (none:Option (Way ρ α))=none:=rfl
theorem aj_(o:Option cx)(f:cx->Option (Way ρ α)):bb (o.bind f)=o.bind λ x=>bb (f x):=by cases o<;>rfl
theorem aj'(c:Bool)(x y:Option (Way ρ α)):bb (cond c x y)=cond c (bb x) (bb y):=by cases c<;>rfl
theorem aka(o:Option (cx⊕pV))(f:cx->Option (Way ρ α))(g:pV->Option (Way ρ α)):bb (dK o f g)=dK o (λ x=>bb (f x)) (λ x=>bb (g x)):=by
 cases o with
 |none=>rfl
 |some y=>cases y<;>rfl
theorem akb(a:α)(k:α->Option cx)(l:β->Option cx):dK (some (.inl a)) k l=k a:=rfl
theorem ajQ(b:β)(k:α->Option cx)(l:β->Option cx):dK (some (.inr b)) k l=l b:=rfl
theorem ajR(k:α->Option cx)(l:β->Option cx):dK none k l=none:=rfl
theorem ajS(o:Option pV)(f:pV->Option (α⊕β))(k:α->Option cx)(l:β->Option cx):dK (o.bind f) k l=o.bind λ x=>dK (f x) k l:=by cases o<;>rfl
theorem ajT(c:Bool)(x y:Option (α⊕β))(k:α->Option cx)(l:β->Option cx):dK (cond c x y) k l=cond c (dK x k l) (dK y k l):=by cases c<;>rfl
theorem ajU(o:Option (ρ⊕σ))(f:ρ->Option (α⊕β))(g:σ->Option (α⊕β))(k:α->Option cx)(l:β->Option cx):dK (dK o f g) k l=dK o (λ x=>dK (f x) k l) (λ x=>dK (g x) k l):=by
 cases o with
 |none=>rfl
 |some y=>cases y<;>rfl
theorem ajV(o:Option α)(f:α->Option β)(g:β->Option cx):(o.bind f).bind g=o.bind λ x=>(f x).bind g:=by cases o<;>rfl
theorem ajW(a:α)(f:α->Option β):(some a).bind f=f a:=rfl
theorem ajX(f:α->Option β):ej none f=none:=rfl
theorem ajY(c:Bool)(x y:Option α)(f:α->Option β):(cond c x y).bind f=cond c (x.bind f) (y.bind f):=by cases c<;>rfl
theorem ajZ(o:Option (ρ⊕σ))(k:ρ->Option α)(l:σ->Option α)(f:α->Option β):(dK o k l).bind f=dK o (λ x=>(k x).bind f) (λ x=>(l x).bind f):=by
 cases o with
 |none=>rfl
 |some y=>cases y<;>rfl
theorem aj1(o:Option α)(f:α->Option β)(g:β->cx):(o.bind f).map g=o.bind λ x=>(f x).map g:=by cases o<;>rfl
theorem aj2(c:Bool)(x y:Option α)(g:α->cx):(cond c x y).map g=cond c (x.map g) (y.map g):=by cases c<;>rfl
theorem aj3(a:α)(g:α->cx):(some a).map g=some (g a):=rfl
theorem aj4(g:α->cx):eV g none=none:=rfl
theorem aj5(o:Option (ρ⊕σ))(k:ρ->Option α)(l:σ->Option α)(g:α->cx):(dK o k l).map g=dK o (λ x=>(k x).map g) (λ x=>(l x).map g):=by
 cases o with
 |none=>rfl
 |some y=>cases y<;>rfl
theorem aj6{cj:Type}(k:cj)(b:cj->Option α):join k b=b k:=rfl
theorem ajN(b x:Bool):cond b (some x) (some false)=some (b&&x):=by cases b<;>rfl
theorem UW{α:Type}(a b:Bool)(x y:Option α):cond a x (cond b x y)=cond (a||b) x y:=by cases a<;>rfl
theorem bi:(∀ {α β ρ:Type}(o:Option (Way ρ α))(k:α->Option (Way ρ β)),c5 o k=dK (bb o) k (λ r=>some (.out r)))/\(∀ {α ρ:Type}(o:Option (Way ρ α))(k:α->Option ρ),cO o k=dK (bb o) k (λ r=>some r))/\(∀ {α ρ:Type}(a:α),bb (some (.go a):Option (Way ρ α))=some (.inl a))/\(∀ {α ρ:Type}(r:ρ),bb (some (.out r):Option (Way ρ α))=some (.inr r))/\(∀ {α ρ:Type},bb (none:Option (Way ρ α))=none)/\(∀ {α cx ρ:Type}(o:Option cx)(f:cx->Option (Way ρ α)),bb (o.bind f)=o.bind λ x=>bb (f x))/\(∀ {α ρ:Type}(c:Bool)(x y:Option (Way ρ α)),bb (cond c x y)=cond c (bb x) (bb y))/\(∀ {α cx pV ρ:Type}(o:Option (cx⊕pV))(f:cx->Option (Way ρ α))(g:pV->Option (Way ρ α)),bb (dK o f g)=dK o (λ x=>bb (f x)) (λ x=>bb (g x)))/\(∀ {α β cx:Type}(a:α)(k:α->Option cx)(l:β->Option cx),dK (some (.inl a)) k l=k a)/\(∀ {α β cx:Type}(b:β)(k:α->Option cx)(l:β->Option cx),dK (some (.inr b)) k l=l b)/\(∀ {α β cx:Type}(k:α->Option cx)(l:β->Option cx),dK none k l=none)/\(∀ {α β cx pV:Type}(o:Option pV)(f:pV->Option (α⊕β))(k:α->Option cx)(l:β->Option cx),dK (o.bind f) k l=o.bind λ x=>dK (f x) k l)/\(∀ {α β cx:Type}(c:Bool)(x y:Option (α⊕β))(k:α->Option cx)(l:β->Option cx),dK (cond c x y) k l=cond c (dK x k l) (dK y k l))/\(∀ {α β cx ρ σ:Type}(o:Option (ρ⊕σ))(f:ρ->Option (α⊕β))(g:σ->Option (α⊕β))(k:α->Option cx)(l:β->Option cx),dK (dK o f g) k l=dK o (λ x=>dK (f x) k l) (λ x=>dK (g x) k l))/\(∀ {α β cx:Type}(o:Option α)(f:α->Option β)(g:β->Option cx),(o.bind f).bind g=o.bind λ x=>(f x).bind g)/\(∀ {α β:Type}(a:α)(f:α->Option β),(some a).bind f=f a)/\(∀ {α β:Type}(f:α->Option β),ej none f=none)/\(∀ {α β:Type}(c:Bool)(x y:Option α)(f:α->Option β),(cond c x y).bind f=cond c (x.bind f) (y.bind f))/\(∀ {α β ρ σ:Type}(o:Option (ρ⊕σ))(k:ρ->Option α)(l:σ->Option α)(f:α->Option β),(dK o k l).bind f=dK o (λ x=>(k x).bind f) (λ x=>(l x).bind f))/\(∀ {α β cx:Type}(o:Option α)(f:α->Option β)(g:β->cx),(o.bind f).map g=o.bind λ x=>(f x).map g)/\(∀ {α cx:Type}(c:Bool)(x y:Option α)(g:α->cx),(cond c x y).map g=cond c (x.map g) (y.map g))/\(∀ {α cx:Type}(a:α)(g:α->cx),(some a).map g=some (g a))/\(∀ {α cx:Type}(g:α->cx),eV g none=none)/\(∀ {α cx ρ σ:Type}(o:Option (ρ⊕σ))(k:ρ->Option α)(l:σ->Option α)(g:α->cx),(dK o k l).map g=dK o (λ x=>(k x).map g) (λ x=>(l x).map g))/\(∀ {α:Type}{cj:Type}(k:cj)(b:cj->Option α),join k b=b k):=⟨ajP,aj0,aj7,aj8,aj9,aj_,aj',aka,akb,ajQ,ajR,ajS,ajT,ajU,ajV,ajW,ajX,ajY,ajZ,aj1,aj2,aj3,aj4,aj5,aj6⟩
end
end ad
namespace a9
open Go Go.RowKit aw ad
theorem bN.b7{E:Env}{a4:dW E}{LE:js E}{n id:Nat}{body:Code}{c:bN E.T}(a:∀d,c.fn 0 d=none)
 (I:∀k (aH:c8 E.T.El c.bf)(aJ:ct E.T.El c.pbs) q,c.fn (k+1) (aH,aJ)=some q->(den E a4 LE n body (sK E c.wi aH aJ)).run (c.wi.fin E id k)=(c.fn (k+1) (aH,aJ)).map λ r=>bY (aH,aJ) c.ws r):c.wi.mv E a4 LE n id body:=
 ⟨λ d=>by exact(congrArg (eV _) (a d)).trans rfl,λ k aH aJ r h=>by obtain⟨q,b,_⟩:=cQ.1 h;exact(I k aH aJ q b).trans h⟩
def okF(P:Program)(f:Nat):Bool:=match P.funcs[f]? with
 |some fn=>!(fn.name== "runtime.NumGoroutine")&& !fn.body.isNone
 |none=>false
theorem U8{P:Program}{f:Nat}(h:okF P f=true)(args:Array Value)(w:World):(callFunc f args).run P w= .ok (.enter f args) w:=by
 unfold okF at h;split at h
 ·rename_i fn a;simp only[bM,gx]at h;have I: ¬fn.name= "runtime.NumGoroutine" :=λ e=>by rw[e]at h;simp at h
  cases ag:fn.body with
  |none=>rw[ag]at h;simp at h
  |some c=>simp[callFunc,go_sem,a,I,ag]
 ·cases h
def FJ(P:Program):List Nat->Bool
 |[]=>true
 |f::r=>okF P f&&FJ P r
theorem Mv{P:Program}:∀ {l:List Nat}{f:Nat},FJ P l=true->f∈l->okF P f=true
 |g::r,f,h,af=>by simp only[FJ,bM]at h;rcases cU.1 af with rfl |af;exact h.1;exact Mv h.2 af
theorem F_{α:Type}{A B:cR α}{F F':Nat->Prop}{w w':World}(h:∀cs d,A.rd F w cs d->B.rd F' w' cs d):∀ {l:List α}{xs:List Value},c' A F w xs l->c' B F' w' xs l
 |[],xs,a=>a
 |d::r,xs,a=>by obtain⟨cs,ys,rfl,I,J⟩:=a;exact⟨cs,ys,rfl,h _ _ I,F_ h J⟩
theorem iP{α:Type}{A B:cR α}{F:Nat->Prop}{w:World}(h:∀cs d,A.rd F w cs d->B.rd F w cs d){xs:List Value}{l:List α}(a:(bX A).rd F w xs l):(bX B).rd F w xs l:=by obtain⟨P,c,e,I,J,b,f⟩:=a;refine⟨P,c,e,I,J,b,λ g=>?_⟩;obtain⟨i,j,ys,k,m⟩:=f g;exact⟨i,j,ys,F_ h k,m⟩
def p1(P:Program)(T:bD)(t:Nat)(e:bz T.El t):Prop:=∀f,e.eq=some f->∀F w xs ys d e',e.ty.rd F w xs d->e.ty.rd F w ys e'->∀(o:Oper)(a:Act)(x y:Operand)(t':TypeId)(b:Bool),o.op= .binOp (cond b .eql .neq) t x y t'->a.eval x= .agg ⟨xs⟩->a.eval y= .agg ⟨ys⟩->∀w',aS P o a w' (.bool (cond b (f d e') (!f d e'))) w'
def Iv(P:Program)(T:bD):List (Σ t,bz T.El t)->Prop
 |[]=>True
 |p::r=>p1 P T p.1 p.2/\Iv P T r
theorem Iu{P:Program}{T:bD}{t:Nat}:∀ {es:List (Σ t,bz T.El t)},Iv P T es->p1 P T t (e7 es t)
 |[],_=>λ f a=>by cases a
 |p::r,h=>by simp only[e7];split;rename_i e _;subst e;exact h.1;exact Iu h.2
theorem er{P:Program}{T:bD}{t:Nat}{e:bz T.El t}(h:e.eq=none):p1 P T t e:=λ f a=>by rw[h]at a;cases a
section
variable{E:Env}{f:Nat}
theorem ajr(W:World):Mem E.T W [] (λ _=>False) [] [] W:=⟨a1.refl _ _,rfl,λ _ h=>h.elim,λ k ⟨i,B,h,I,_⟩=>by simp at I,λ i j B C h g I=>by simp at I,λ i B h I=>by simp at I⟩
theorem aiV{W:World}(b:iB E (λ _=>False) [] [] W){g:List (aE E.T.El)->List (az E.T.El)->D (eX E.T.El)}(hc:jt E f g){ys:List (aE E.T.El)}(c:(g ys []).out ⟨.ret (.p (.bool true)),[],[]⟩){vs:List Value}(d:aR E.T (λ k=>k<W.heap.size) W [] [] ys vs) :
 Calls E.P f ⟨vs⟩ W λ e w'=>e= .returned (.bool true)/\a1 [] W w':=by
 have j:aR E.T (aY (λ _=>False) ([]:List (az E.T.El)) [] W) W [] [] ys vs:=aR.later (λ k l=>⟨⟨λ h=>h,λ⟨i,B,h,I,_⟩=>by simp at I,l⟩,rfl⟩) .refl ys d
 refine(hc ys [] _ c W [] (λ _=>False) [] W vs (ajr W) b j).mono λ e w' ⟨ρ',m,_,_,a⟩=>?_
 cases e with
 |returned v=>
  have a:v= .bool true:=by simp only[sd,ar]at a;exact a
  exact⟨by rw[a],m.bO⟩
 |panicked oV=>exact a.elim
 |outgrown=>exact a.elim
end
section
variable{T:bD}{W w w':World}{au:List Nat}{X:Nat->Prop}{bl:List (az T.El)}{ρ:List Value}{E:List aX}{D:List bh}
variable{t sz:Nat}{h:Value}{l:List (T.El t)}{xs:List Value}{R:cR (T.El t)}
variable{t' pN:Nat}{h':Value}{l':List (T.El t')}{ep:List Value}{PF:cR (T.El t')}
theorem afu{A:Option Addr}{n c k:Nat}(a:k∈ag (.slice A n c)):k∈(Value.slice A n c).ownBlock.toList:=by cases A<;>cases c<;>simp_all [ag,Value.ownBlock]
theorem NG{F:Nat->Prop}{M:List Nat}(a:(aX.row t sz h l xs).ok w')(b:(bh.rows R xs l).ok M w')(e:(T.ty t).size=sz)(f:∀F cs d,R.rd F w' cs d->∀F',(T.ty t).rd F' w' cs d)(g k:Nat):hf T F w' ρ bl (.r t g k l) h:=by subst e;obtain⟨A,c,rfl,_⟩:=Gk a;exact⟨A,c,xs,rfl,.inl a,F_ (λ cs d i=>f _ _ _ i _) b⟩
theorem Ec(ap:bd w [] [] w' E D)(hi:aX.row t sz h l xs∈E){g k:Nat}:∀q∈a_ (az.r t g k l:az T.El) h,q∈(aX.row t sz h l xs).a_/\w.heap.size<=q/\q<w'.heap.size:=λ q b=>by obtain⟨A,c,rfl,_⟩:=Gk (ap.ok _ hi);have a:q∈(aX.row t sz (.slice A l.length c) l xs).a_:=afu b;have I:=ap.lt q (hn.2 ⟨_,hi,a⟩);exact⟨a,I.2.resolve_left (by simp),I.1⟩
theorem Mem.ang(b:Mem T W au X bl ρ w)(ap:bd w [] [] w' (aX.row t sz h l xs::E) (bh.rows R xs l::D))(c:(T.ty t).size=sz)(e:∀F cs d,R.rd F w' cs d->∀F',(T.ty t).rd F' w' cs d) :
 Mem T W au X (bl++[.r t 0 0 l]) (ρ++[h]) w'/\To X bl (bl++[.r t 0 0 l]) ρ (ρ++[h]) w w':=
 ⟨b.push ap.bO (λ q a=>(Ec (xs:=xs) (sz:=sz) ap (by simp) q a).2) (NG (ap.e 0 rfl) (ap.d 0 rfl) c e 0 0),b.uh ap.bO λ q a=>(Ec (xs:=xs) (sz:=sz) ap (by simp) q a).2⟩
theorem Mem.anh(e:Mem T W au X bl ρ w)(ap:bd w [] [] w' (aX.row t sz h l xs::aX.row t' pN h' l' ep::E) (bh.rows R xs l::bh.rows PF ep l'::D))(f:(T.ty t).size=sz)(i:∀F cs d,R.rd F w' cs d->∀F',(T.ty t).rd F' w' cs d)
 (j:(T.ty t').size=pN)(An:∀F cs d,PF.rd F w' cs d->∀F',(T.ty t').rd F' w' cs d) :
 Mem T W au X (bl++[.r t 0 0 l,.r t' 0 0 l']) (ρ++[h,h']) w'/\To X bl (bl++[.r t 0 0 l,.r t' 0 0 l']) ρ (ρ++[h,h']) w w':=by
 have b:=Ec (T:=T) (g:=0) (k:=0) (l:=l) (h:=h) (xs:=xs) (sz:=sz) ap (by simp)
 have c:=Ec (T:=T) (g:=0) (k:=0) (l:=l') (h:=h') (xs:=ep) (sz:=pN) ap (by simp)
 have aC:=ap.a6
 simp only[bG,ik]at aC
 refine⟨e.Vw ap.bO (λ q a=>(b q a).2) (λ q a=>(c q a).2) (λ q I J=>?_) (NG (ap.e 0 rfl) (ap.d 0 rfl) f i 0 0) (NG (ap.e 1 rfl) (ap.d 1 rfl) j An 0 0),e.N_ ap.bO (λ q a=>(b q a).2) λ q a=>(c q a).2⟩
 exact(fL.1 aC).2.2 q (b q I).1 q (lr _ (c q J).1) rfl
end
def anB{α β:Type}(T:cR α)(n:Nat)(aQ:β->List α):cR β where
 size:=n*T.size
 rd F w cs d:=c' T F w cs (aQ d)/\(aQ d).length=n
 len h:=by rw[oo T h.1,h.2]
 one h v a:=wL T h.1 v a
 law b h:=⟨kz _ b h.1,h.2⟩
def WA{El:Nat->Type}{s t:Nat}(e:bz El s)(n:Nat)(aQ:El t->List (El s)):bz El t:=⟨anB e.ty n aQ,true,λ d=>(aQ d).flatMap e.cs,λ _=>none,none,none,some ⟨s,aQ⟩⟩
section
variable{T:bD}{F:Nat->Prop}{w:World}
theorem QA{s:Nat}{e:bz T.El s}(a:dj T s e):∀ {l:List (T.El s)}{xs:List Value},c' e.ty F w xs l->aR T F w [] [] (l.flatMap e.cs) xs
 |[],xs,h=>by simp only[c']at h;subst h;simp[aR]
 |d::r,xs,h=>by obtain⟨cs,ys,rfl,I,J⟩:=h;rw[ik];exact(a.cs d F w cs I).cc (QA a J)
theorem ank{s t n:Nat}{e:bz T.El s}{aQ:T.El t->List (T.El s)}(b:dj T s e)(a:e.ty=T.ty s):dj T t (WA e n aQ):=⟨λ d F w xs h=>QA b h.1,(λ l d h=>by cases h),(λ K h=>by cases h),(λ h=>by cases h),λ s' f h d F w xs c=>by cases h;rw[<-a];exact c.1⟩
end
end a9
namespace Go.Proofs.YtifhjkbiiekamaaGreatDoor
open Go Go.RowKit aw a9
def bU:Nat->Type:=Ro [(2,Int),(3,Int),(4,Bool),(5,UInt8),(6,UInt8),(9,List UInt8),(10,List UInt8),(11,List UInt8),(21,Int),(121,ad.Field),(47,ad.Kind),(71,ad.Handler),(61,ad.Method),(39,ad.ao),(22,List ad.ao),(23,List Int),(36,List ad.Field),(24,List (List ad.Field)),(95,List (List UInt8)),(25,List (List (List UInt8))),(102,ad.Target),(96,List ad.Target),(26,List (List ad.Target)),(28,ad.bE),(78,ad.State),(29,List ad.State),(30,Int),(32,ad.xj),(37,List ad.Method),(58,List ad.Kind),(59,List ad.Handler),(104,ad.p3),(63,List ad.p3),(64,List Bool),(81,ad.Om),(136,ad.Ol),(162,Int),(180,List UInt8),(189,UInt8),(190,UInt8),(193,Int),(194,Int),(163,List (Int))]
def RB:List (Σ t,bz bU t):=[]
def al:bz bU 2:=dS RB false [.i .i64] (λ(d:Int)=>(d,())) (λ(p:Int×Unit)=>p.1) none (some sZ)
def D0:List (Σ t,bz bU t):=⟨2,al⟩::RB
def aN:bz bU 3:=dS D0 false [.i .i64] (λ(d:Int)=>(d,())) (λ(p:Int×Unit)=>p.1) none (some sZ)
def RO:List (Σ t,bz bU t):=⟨3,aN⟩::D0
def bI:bz bU 4:=dS RO false [.b] (λ(d:Bool)=>(d,())) (λ(p:Bool×Unit)=>p.1) none none
def IA:List (Σ t,bz bU t):=⟨4,bI⟩::RO
def b':bz bU 5:=dS IA false [.y] (λ(d:UInt8)=>(d,())) (λ(p:UInt8×Unit)=>p.1) none none
def RU:List (Σ t,bz bU t):=⟨5,b'⟩::IA
def eD:bz bU 6:=dS RU false [.y] (λ(d:UInt8)=>(d,())) (λ(p:UInt8×Unit)=>p.1) none none
def D3:List (Σ t,bz bU t):=⟨6,eD⟩::RU
def Rj:bz bU 9:=dS D3 false [.s] (λ(d:List UInt8)=>(d,())) (λ(p:(List UInt8)×Unit)=>p.1) none (some Bh)
def R1:List (Σ t,bz bU t):=⟨9,Rj⟩::D3
def xP:bz bU 10:=dS R1 false [.s] (λ(d:List UInt8)=>(d,())) (λ(p:(List UInt8)×Unit)=>p.1) none (some Bh)
def RC:List (Σ t,bz bU t):=⟨10,xP⟩::R1
def xQ:bz bU 11:=dS RC false [.s] (λ(d:List UInt8)=>(d,())) (λ(p:(List UInt8)×Unit)=>p.1) none (some Bh)
def RE:List (Σ t,bz bU t):=⟨11,xQ⟩::RC
def Q1:bz bU 21:=dS RE false [.i .i32] (λ(d:Int)=>(d,())) (λ(p:Int×Unit)=>p.1) none none
def z4:List (Σ t,bz bU t):=⟨21,Q1⟩::RE
def Ig:bz bU 121:=dS z4 true [.s,.i .i64,.s] (λ(d:ad.Field)=>(d.Name,d.Kind.Kind,d.Kind.ao,())) (λ(p:(List UInt8)×Int×(List UInt8)×Unit)=>(⟨p.1,⟨p.2.1,p.2.2.1⟩⟩:ad.Field)) (some λ(d e:ad.Field)=>decide (d=e)) none
def DZ:List (Σ t,bz bU t):=⟨121,Ig⟩::z4
def Ij:bz bU 47:=dS DZ true [.i .i64,.s] (λ(d:ad.Kind)=>(d.Kind,d.ao,())) (λ(p:Int×(List UInt8)×Unit)=>(⟨p.1,p.2.1⟩:ad.Kind)) (some λ(d e:ad.Kind)=>decide (d=e)) none
def D2:List (Σ t,bz bU t):=⟨47,Ij⟩::DZ
def Il:bz bU 71:=dS D2 true [.i .i64,.i .i64,.i .i64,.s] (λ(d:ad.Handler)=>(d.From,d.To,d.dU,d.ao,())) (λ(p:Int×Int×Int×(List UInt8)×Unit)=>(⟨p.1,p.2.1,p.2.2.1,p.2.2.2.1⟩:ad.Handler)) (some λ(d e:ad.Handler)=>decide (d=e)) none
def D5:List (Σ t,bz bU t):=⟨71,Il⟩::D2
def Rd:bz bU 61:=dS D5 true [.s,.b,.l 47,.i .i64,.s,.i .i64,.i .i64,.s,.l 71] (λ(d:ad.Method)=>(d.Name,d.Static,d.cg,d.Returns.Kind,d.Returns.ao,d.fP,d.fO,d.Code,d.ck,())) (λ(p:(List UInt8)×Bool×(List ad.Kind)×Int×(List UInt8)×Int×Int×(List UInt8)×(List ad.Handler)×Unit)=>(⟨p.1,p.2.1,p.2.2.1,⟨p.2.2.2.1,p.2.2.2.2.1⟩,p.2.2.2.2.2.1,p.2.2.2.2.2.2.1,p.2.2.2.2.2.2.2.1,p.2.2.2.2.2.2.2.2.1⟩:ad.Method)) none none
def D4:List (Σ t,bz bU t):=⟨61,Rd⟩::D5
def Ra:bz bU 39:=dS D4 true [.s,.s,.l 121,.l 61] (λ(d:ad.ao)=>(d.Name,d.ch,d.Fields,d.a3,())) (λ(p:(List UInt8)×(List UInt8)×(List ad.Field)×(List ad.Method)×Unit)=>(⟨p.1,p.2.1,p.2.2.1,p.2.2.2.1⟩:ad.ao)) none none
def RT:List (Σ t,bz bU t):=⟨39,Ra⟩::D4
def Q2:bz bU 22:=dS RT false [.l 39] (λ(d:List ad.ao)=>(d,())) (λ(p:(List ad.ao)×Unit)=>p.1) none none
def RK:List (Σ t,bz bU t):=⟨22,Q2⟩::RT
def Q3:bz bU 23:=dS RK false [.l 3] (λ(d:List Int)=>(d,())) (λ(p:(List Int)×Unit)=>p.1) none none
def Iy:List (Σ t,bz bU t):=⟨23,Q3⟩::RK
def Q_:bz bU 36:=dS Iy false [.l 121] (λ(d:List ad.Field)=>(d,())) (λ(p:(List ad.Field)×Unit)=>p.1) none none
def RR:List (Σ t,bz bU t):=⟨36,Q_⟩::Iy
def Q4:bz bU 24:=dS RR false [.l 36] (λ(d:List (List ad.Field))=>(d,())) (λ(p:(List (List ad.Field))×Unit)=>p.1) none none
def Iz:List (Σ t,bz bU t):=⟨24,Q4⟩::RR
def Rk:bz bU 95:=dS Iz false [.l 9] (λ(d:List (List UInt8))=>(d,())) (λ(p:(List (List UInt8))×Unit)=>p.1) none none
def R2:List (Σ t,bz bU t):=⟨95,Rk⟩::Iz
def Q5:bz bU 25:=dS R2 false [.l 95] (λ(d:List (List (List UInt8)))=>(d,())) (λ(p:(List (List (List UInt8)))×Unit)=>p.1) none none
def D1:List (Σ t,bz bU t):=⟨25,Q5⟩::R2
def Ic:bz bU 102:=dS D1 true [.i .i64,.i .i64] (λ(d:ad.Target)=>(d.ao,d.Method,())) (λ(p:Int×Int×Unit)=>(⟨p.1,p.2.1⟩:ad.Target)) (some λ(d e:ad.Target)=>decide (d=e)) none
def Iw:List (Σ t,bz bU t):=⟨102,Ic⟩::D1
def Rl:bz bU 96:=dS Iw false [.l 102] (λ(d:List ad.Target)=>(d,())) (λ(p:(List ad.Target)×Unit)=>p.1) none none
def R3:List (Σ t,bz bU t):=⟨96,Rl⟩::Iw
def Q6:bz bU 26:=dS R3 false [.l 96] (λ(d:List (List ad.Target))=>(d,())) (λ(p:(List (List ad.Target))×Unit)=>p.1) none none
def RL:List (Σ t,bz bU t):=⟨26,Q6⟩::R3
def Q7:bz bU 28:=dS RL true [.l 39,.l 3,.l 36,.l 95,.l 96] (λ(d:ad.bE)=>(d.dF,d.cu,d.Fields,d.Names,d.cy,())) (λ(p:(List ad.ao)×(List Int)×(List (List ad.Field))×(List (List (List UInt8)))×(List (List ad.Target))×Unit)=>(⟨p.1,p.2.1,p.2.2.1,p.2.2.2.1,p.2.2.2.2.1⟩:ad.bE)) none none
def RM:List (Σ t,bz bU t):=⟨28,Q7⟩::RL
def Rh:bz bU 78:=dS RM true [.b,.l 47,.l 47] (λ(d:ad.State)=>(d.Comes,d.fO,d.fP,())) (λ(p:Bool×(List ad.Kind)×(List ad.Kind)×Unit)=>(⟨p.1,p.2.1,p.2.2.1⟩:ad.State)) none none
def RZ:List (Σ t,bz bU t):=⟨78,Rh⟩::RM
def Q8:bz bU 29:=dS RZ false [.l 78] (λ(d:List ad.State)=>(d,())) (λ(p:(List ad.State)×Unit)=>p.1) none none
def RN:List (Σ t,bz bU t):=⟨29,Q8⟩::RZ
def Q9:bz bU 30:=dS RN false [.i .i64] (λ(d:Int)=>(d,())) (λ(p:Int×Unit)=>p.1) none (some sZ)
def RP:List (Σ t,bz bU t):=⟨30,Q9⟩::RN
def Ii:bz bU 32:=dS RP true [.i .i64,.i .i64] (λ(d:ad.xj)=>(d.Err,d.dU,())) (λ(p:Int×Int×Unit)=>(⟨p.1,p.2.1⟩:ad.xj)) (some λ(d e:ad.xj)=>decide (d=e)) none
def RQ:List (Σ t,bz bU t):=⟨32,Ii⟩::RP
def Q':bz bU 37:=dS RQ false [.l 61] (λ(d:List ad.Method)=>(d,())) (λ(p:(List ad.Method)×Unit)=>p.1) none none
def RS:List (Σ t,bz bU t):=⟨37,Q'⟩::RQ
def Rb:bz bU 58:=dS RS false [.l 47] (λ(d:List ad.Kind)=>(d,())) (λ(p:(List ad.Kind)×Unit)=>p.1) none none
def RV:List (Σ t,bz bU t):=⟨58,Rb⟩::RS
def Rc:bz bU 59:=dS RV false [.l 71] (λ(d:List ad.Handler)=>(d,())) (λ(p:(List ad.Handler)×Unit)=>p.1) none none
def RW:List (Σ t,bz bU t):=⟨59,Rc⟩::RV
def If:bz bU 104:=dS RW true [.i .i64,.i .i64,.i .i64,.i .i64] (λ(d:ad.p3)=>(d.dU,d.Op,d.A,d.B,())) (λ(p:Int×Int×Int×Int×Unit)=>(⟨p.1,p.2.1,p.2.2.1,p.2.2.2.1⟩:ad.p3)) (some λ(d e:ad.p3)=>decide (d=e)) none
def RD:List (Σ t,bz bU t):=⟨104,If⟩::RW
def Rf:bz bU 63:=dS RD false [.l 104] (λ(d:List ad.p3)=>(d,())) (λ(p:(List ad.p3)×Unit)=>p.1) none none
def RX:List (Σ t,bz bU t):=⟨63,Rf⟩::RD
def Rg:bz bU 64:=dS RX false [.l 4] (λ(d:List Bool)=>(d,())) (λ(p:(List Bool)×Unit)=>p.1) none none
def RY:List (Σ t,bz bU t):=⟨64,Rg⟩::RX
def Ri:bz bU 81:=dS RY true [.l 39,.l 3,.l 36,.l 95,.l 96] (λ(d:ad.Om)=>(d.k.dF,d.k.cu,d.k.Fields,d.k.Names,d.k.cy,())) (λ(p:(List ad.ao)×(List Int)×(List (List ad.Field))×(List (List (List UInt8)))×(List (List ad.Target))×Unit)=>(⟨⟨p.1,p.2.1,p.2.2.1,p.2.2.2.1,p.2.2.2.2.1⟩⟩:ad.Om)) none none
def R0:List (Σ t,bz bU t):=⟨81,Ri⟩::RY
def QT:bz bU 136:=dS R0 true [.l 47,.l 47] (λ(d:ad.Ol)=>(d.y4,d.akM,())) (λ(p:(List ad.Kind)×(List ad.Kind)×Unit)=>(⟨p.1,p.2.1⟩:ad.Ol)) none none
def Ix:List (Σ t,bz bU t):=⟨136,QT⟩::R0
def Ih:bz bU 162:=dS Ix false [.i .i64] (λ(d:Int)=>(d,())) (λ(p:Int×Unit)=>p.1) none (some sZ)
def RF:List (Σ t,bz bU t):=⟨162,Ih⟩::Ix
def QW:bz bU 180:=dS RF false [.l 5] (λ(d:List UInt8)=>(d,())) (λ(p:(List UInt8)×Unit)=>p.1) none none
def RG:List (Σ t,bz bU t):=⟨180,QW⟩::RF
def QX:bz bU 189:=dS RG false [.y] (λ(d:UInt8)=>(d,())) (λ(p:UInt8×Unit)=>p.1) none none
def RH:List (Σ t,bz bU t):=⟨189,QX⟩::RG
def QY:bz bU 190:=dS RH false [.y] (λ(d:UInt8)=>(d,())) (λ(p:UInt8×Unit)=>p.1) none none
def RI:List (Σ t,bz bU t):=⟨190,QY⟩::RH
def QZ:bz bU 193:=dS RI false [.i .i32] (λ(d:Int)=>(d,())) (λ(p:Int×Unit)=>p.1) none none
def RJ:List (Σ t,bz bU t):=⟨193,QZ⟩::RI
def Q0:bz bU 194:=dS RJ false [.i .i32] (λ(d:Int)=>(d,())) (λ(p:Int×Unit)=>p.1) none none
def adx:List (Σ t,bz bU t):=⟨194,Q0⟩::RJ
def QV:bz bU 163:=WA Ih 37 (λ(d:List (Int))=>(d:List (bU 162)))
def adw:List (Σ t,bz bU t):=⟨163,QV⟩::adx
def bc:bD:=⟨bU,adw⟩
theorem acG:dj bc 2 al:=dV trivial (λ _=>rfl) (λ h=>by rfl) (λ K h F w xs k a=>by cases h;obtain⟨v,vs,rfl,I,rfl⟩:=a;exact I)
theorem acM:dj bc 3 aN:=dV trivial (λ _=>rfl) (λ h=>by rfl) (λ K h F w xs k a=>by cases h;obtain⟨v,vs,rfl,I,rfl⟩:=a;exact I)
theorem acO:dj bc 4 bI:=dV trivial (λ _=>rfl) (λ h=>by rfl) (λ K h=>by cases h)
theorem acR:dj bc 5 b':=dV trivial (λ _=>rfl) (λ h=>by rfl) (λ K h=>by cases h)
theorem acV:dj bc 6 eD:=dV trivial (λ _=>rfl) (λ h=>by rfl) (λ K h=>by cases h)
theorem ac2:dj bc 9 Rj:=dV trivial (λ _=>rfl) (λ h=>by rfl) (λ K h F w xs k a=>by cases h;obtain⟨v,vs,rfl,I,rfl⟩:=a;exact I)
theorem aci:dj bc 10 xP:=dV trivial (λ _=>rfl) (λ h=>by rfl) (λ K h F w xs k a=>by cases h;obtain⟨v,vs,rfl,I,rfl⟩:=a;exact I)
theorem acj:dj bc 11 xQ:=dV trivial (λ _=>rfl) (λ h=>by rfl) (λ K h F w xs k a=>by cases h;obtain⟨v,vs,rfl,I,rfl⟩:=a;exact I)
theorem acy:dj bc 21 Q1:=dV trivial (λ _=>rfl) (λ h=>by rfl) (λ K h=>by cases h)
theorem acm:dj bc 121 Ig:=dV trivial (λ _=>rfl) (λ h=>by cases h) (λ K h=>by cases h)
theorem acN:dj bc 47 Ij:=dV trivial (λ _=>rfl) (λ h=>by cases h) (λ K h=>by cases h)
theorem acW:dj bc 71 Il:=dV trivial (λ _=>rfl) (λ h=>by cases h) (λ K h=>by cases h)
theorem acS:dj bc 61 Rd:=dV ⟨by kernel_rfl,by kernel_rfl,trivial⟩ (λ _=>rfl) (λ h=>by cases h) (λ K h=>by cases h)
theorem acL:dj bc 39 Ra:=dV ⟨by kernel_rfl,by kernel_rfl,trivial⟩ (λ _=>rfl) (λ h=>by cases h) (λ K h=>by cases h)
theorem acz:dj bc 22 Q2:=dV ⟨by kernel_rfl,trivial⟩ (λ _=>rfl) (λ h=>by rfl) (λ K h=>by cases h)
theorem acA:dj bc 23 Q3:=dV ⟨by kernel_rfl,trivial⟩ (λ _=>rfl) (λ h=>by rfl) (λ K h=>by cases h)
theorem acJ:dj bc 36 Q_:=dV ⟨by kernel_rfl,trivial⟩ (λ _=>rfl) (λ h=>by rfl) (λ K h=>by cases h)
theorem acB:dj bc 24 Q4:=dV ⟨by kernel_rfl,trivial⟩ (λ _=>rfl) (λ h=>by rfl) (λ K h=>by cases h)
theorem ac0:dj bc 95 Rk:=dV ⟨by kernel_rfl,trivial⟩ (λ _=>rfl) (λ h=>by rfl) (λ K h=>by cases h)
theorem acC:dj bc 25 Q5:=dV ⟨by kernel_rfl,trivial⟩ (λ _=>rfl) (λ h=>by rfl) (λ K h=>by cases h)
theorem acg:dj bc 102 Ic:=dV trivial (λ _=>rfl) (λ h=>by cases h) (λ K h=>by cases h)
theorem ac1:dj bc 96 Rl:=dV ⟨by kernel_rfl,trivial⟩ (λ _=>rfl) (λ h=>by rfl) (λ K h=>by cases h)
theorem acD:dj bc 26 Q6:=dV ⟨by kernel_rfl,trivial⟩ (λ _=>rfl) (λ h=>by rfl) (λ K h=>by cases h)
theorem acE:dj bc 28 Q7:=dV ⟨by kernel_rfl,by kernel_rfl,by kernel_rfl,by kernel_rfl,by kernel_rfl,trivial⟩ (λ _=>rfl) (λ h=>by cases h) (λ K h=>by cases h)
theorem acX:dj bc 78 Rh:=dV ⟨by kernel_rfl,by kernel_rfl,trivial⟩ (λ _=>rfl) (λ h=>by cases h) (λ K h=>by cases h)
theorem acF:dj bc 29 Q8:=dV ⟨by kernel_rfl,trivial⟩ (λ _=>rfl) (λ h=>by rfl) (λ K h=>by cases h)
theorem acH:dj bc 30 Q9:=dV trivial (λ _=>rfl) (λ h=>by rfl) (λ K h F w xs k a=>by cases h;obtain⟨v,vs,rfl,I,rfl⟩:=a;exact I)
theorem acI:dj bc 32 Ii:=dV trivial (λ _=>rfl) (λ h=>by cases h) (λ K h=>by cases h)
theorem acK:dj bc 37 Q':=dV ⟨by kernel_rfl,trivial⟩ (λ _=>rfl) (λ h=>by rfl) (λ K h=>by cases h)
theorem acP:dj bc 58 Rb:=dV ⟨by kernel_rfl,trivial⟩ (λ _=>rfl) (λ h=>by rfl) (λ K h=>by cases h)
theorem acQ:dj bc 59 Rc:=dV ⟨by kernel_rfl,trivial⟩ (λ _=>rfl) (λ h=>by rfl) (λ K h=>by cases h)
theorem ach:dj bc 104 If:=dV trivial (λ _=>rfl) (λ h=>by cases h) (λ K h=>by cases h)
theorem acT:dj bc 63 Rf:=dV ⟨by kernel_rfl,trivial⟩ (λ _=>rfl) (λ h=>by rfl) (λ K h=>by cases h)
theorem acU:dj bc 64 Rg:=dV ⟨by kernel_rfl,trivial⟩ (λ _=>rfl) (λ h=>by rfl) (λ K h=>by cases h)
theorem acZ:dj bc 81 Ri:=dV ⟨by kernel_rfl,by kernel_rfl,by kernel_rfl,by kernel_rfl,by kernel_rfl,trivial⟩ (λ _=>rfl) (λ h=>by cases h) (λ K h=>by cases h)
theorem aco:dj bc 136 QT:=dV ⟨by kernel_rfl,by kernel_rfl,trivial⟩ (λ _=>rfl) (λ h=>by cases h) (λ K h=>by cases h)
theorem QU:dj bc 162 Ih:=dV trivial (λ _=>rfl) (λ h=>by rfl) (λ K h F w xs k a=>by cases h;obtain⟨v,vs,rfl,I,rfl⟩:=a;exact I)
theorem acs:dj bc 180 QW:=dV ⟨by kernel_rfl,trivial⟩ (λ _=>rfl) (λ h=>by rfl) (λ K h=>by cases h)
theorem acu:dj bc 189 QX:=dV trivial (λ _=>rfl) (λ h=>by rfl) (λ K h=>by cases h)
theorem acv:dj bc 190 QY:=dV trivial (λ _=>rfl) (λ h=>by rfl) (λ K h=>by cases h)
theorem acw:dj bc 193 QZ:=dV trivial (λ _=>rfl) (λ h=>by rfl) (λ K h=>by cases h)
theorem acx:dj bc 194 Q0:=dV trivial (λ _=>rfl) (λ h=>by rfl) (λ K h=>by cases h)
theorem acr:dj bc 163 QV:=ank QU (by kernel_rfl)
theorem Wx:p_ bc:=anj ⟨acr,acx,acw,acv,acu,acs,QU,aco,acZ,acU,acT,ach,acQ,acP,acK,acI,acH,acF,acX,acE,acD,ac1,acg,acC,ac0,acB,acJ,acA,acz,acL,acS,acW,acN,acm,acy,acj,aci,ac2,acV,acR,acO,acM,acG,trivial⟩
open Go Go.RowKit aw ad a9
def x1:List (Nat×aE bc.El):=[(0,.x 47 ((⟨6,[]⟩:ad.Kind):bc.El 47) 0),(1,.x 47 ((⟨5,[]⟩:ad.Kind):bc.El 47) 0),(2,.x 47 ((⟨1,[]⟩:ad.Kind):bc.El 47) 0),(3,.x 47 ((⟨3,[79,98,106,101,99,116]⟩:ad.Kind):bc.El 47) 0),(4,.x 163 (([0,1,0,3,3,0,0,0,0,0,0,0,0,2,2,2,2,2,3,4,4,0,3,0,0,0,4,0,0,3,3,0,0,0,4,0,0]:List Int):bc.El 163) 0),(5,.x 47 ((⟨2,[]⟩:ad.Kind):bc.El 47) 0)]
theorem SN:∀g y,dk x1 g=some y->∃t d o,y= .x t d o:=λ g y h=>by have:=jK h;simp only[x1,cU,cv,hl,or_false]at this;rcases this with⟨_,rfl⟩|⟨_,rfl⟩|⟨_,rfl⟩|⟨_,rfl⟩|⟨_,rfl⟩|⟨_,rfl⟩<;>exact⟨_,_,_,rfl⟩
noncomputable def aU:Env:=⟨Tryz.prog,bc,x1,false,[2,3,4,5,6,7,8,9,10,11,12,13,14,15,16,17,18,19,20,21,22,23,24,25,26,27,28,29,30,31,32,33,34,35,36,37,38,39,40,41,42,43,44,45,46,47,48,49,50,51,52,53,54,55,56,57,58,59,60,61,62,63,64,65,66,67,68,69,70,71,72,73,74,75,76,77,78,79,80,81,82,83,84,85,86,87,88,89,90,91,92,93,94,95,96,97,98,99,100,101,102,103,105,106,107,108,109,110,111,112,113,114,115,116,117,118,119,120,121,122,123,124,125,126,127,128,129,130,131,156],5,λ l=>l⟩
noncomputable def iT:Env:=⟨Tryz.prog,bc,x1,true,[2,3,4,5,6,7,8,9,10,11,12,13,14,15,16,17,18,19,20,21,22,23,24,25,26,27,28,29,30,31,32,33,34,35,36,37,38,39,40,41,42,43,44,45,46,47,48,49,50,51,52,53,54,55,56,57,58,59,60,61,62,63,64,65,66,67,68,69,70,71,72,73,74,75,76,77,78,79,80,81,82,83,84,85,86,87,88,89,90,91,92,93,94,95,96,97,98,99,100,101,102,103,105,106,107,108,109,110,111,112,113,114,115,116,117,118,119,120,121,122,123,124,125,126,127,128,129,130,131,156],5,λ l=>l⟩
theorem sE:iA aU:=SN
theorem aew:iA iT:=SN
def hx:dM aU:=⟨[],[]⟩
theorem akj(b:cJ aU)(h:hx.dR):(hx.f 75 ((lf aU.T 47 24).run aU)).dR:=h.F9 b sE rfl (by kernel_rfl) (λ a c=>by kernel_rfl) λ d l=>by kernel_rfl
def uB:dM aU:=hx.f 75 ((lf aU.T 47 24).run aU)
theorem akk(b:cJ aU)(h:uB.dR):(uB.f 94 ((lf aU.T 121 40).run aU)).dR:=h.F9 b sE rfl (by kernel_rfl) (λ a c=>by kernel_rfl) λ d l=>by kernel_rfl
def nx:dM aU:=uB.f 94 ((lf aU.T 121 40).run aU)
theorem akl(b:cJ aU)(h:nx.dR):(nx.f 95 ((lf aU.T 61 128).run aU)).dR:=h.F9 b sE rfl (by kernel_rfl) (λ a c=>by kernel_rfl) λ d l=>by kernel_rfl
def Ht:dM aU:=nx.f 95 ((lf aU.T 61 128).run aU)
theorem akm(b:cJ aU)(h:Ht.dR):(Ht.f 96 ((lf aU.T 71 40).run aU)).dR:=h.F9 b sE rfl (by kernel_rfl) (λ a c=>by kernel_rfl) λ d l=>by kernel_rfl
def Yi:dM aU:=Ht.f 96 ((lf aU.T 71 40).run aU)
theorem akU:p1 Tryz.prog bc 121 Ig:=by intro f i F w xs ys d e j hy o a x y t' b c g h w';obtain rfl:=eG i;obtain⟨_,_,rfl,rfl,_,_,rfl,rfl,_,_,rfl,rfl,rfl⟩:=j;obtain⟨_,_,rfl,rfl,_,_,rfl,rfl,_,_,rfl,rfl,rfl⟩:=hy;cases b;exact adp c g h;exact adj c g h
theorem akX:p1 Tryz.prog bc 47 Ij:=by intro f i F w xs ys d e j hy o a x y t' b c g h w';obtain rfl:=eG i;obtain⟨_,_,rfl,rfl,_,_,rfl,rfl,rfl⟩:=j;obtain⟨_,_,rfl,rfl,_,_,rfl,rfl,rfl⟩:=hy;cases b;exact ads c g h;exact adm c g h
theorem akZ:p1 Tryz.prog bc 71 Il:=by intro f i F w xs ys d e j hy o a x y t' b c g h w';obtain rfl:=eG i;obtain⟨_,_,rfl,rfl,_,_,rfl,rfl,_,_,rfl,rfl,_,_,rfl,rfl,rfl⟩:=j;obtain⟨_,_,rfl,rfl,_,_,rfl,rfl,_,_,rfl,rfl,_,_,rfl,rfl,rfl⟩:=hy;cases b;exact adq c g h;exact adk c g h
theorem akS:p1 Tryz.prog bc 102 Ic:=by intro f i F w xs ys d e j hy o a x y t' b c g h w';obtain rfl:=eG i;obtain⟨_,_,rfl,rfl,_,_,rfl,rfl,rfl⟩:=j;obtain⟨_,_,rfl,rfl,_,_,rfl,rfl,rfl⟩:=hy;cases b;exact adt c g h;exact adn c g h
theorem adi{o:Oper}{a:Act}{w:World}{t':TypeId}{x y:Operand}{X Y:ad.xj}(b:o.op= .binOp .eql 32 x y t')(c:a.eval x= .agg #[.int .i64 X.Err,.int .i64 X.dU])(hy:a.eval y= .agg #[.int .i64 Y.Err,.int .i64 Y.dU]):aw.aS Tryz.prog o a w (.bool (decide (X=Y))) w:=by
 have aC:decide (X=Y)=decide (X.Err=Y.Err/\X.dU=Y.dU/\True):=by rcases X with⟨_,_⟩;rcases Y with⟨_,_⟩;simp
 rw[aC];exact aw.zm Tryz.underlying32 (by kernel_rfl) (by kernel_rfl) (aw.gj rfl Tryz.underlying30 Tryz.isAgg30 rfl rfl (aw.gj rfl Tryz.underlying3 Tryz.isAgg3 rfl rfl (by simp[aw.kN]))) b c hy
theorem ado{o:Oper}{a:Act}{w:World}{t':TypeId}{x y:Operand}{X Y:ad.xj}(b:o.op= .binOp .neq 32 x y t')(c:a.eval x= .agg #[.int .i64 X.Err,.int .i64 X.dU])(hy:a.eval y= .agg #[.int .i64 Y.Err,.int .i64 Y.dU]):aw.aS Tryz.prog o a w (.bool (!decide (X=Y))) w:=by
 have aC:decide (X=Y)=decide (X.Err=Y.Err/\X.dU=Y.dU/\True):=by rcases X with⟨_,_⟩;rcases Y with⟨_,_⟩;simp
 rw[aC];exact aw.zn Tryz.underlying32 (by kernel_rfl) (by kernel_rfl) (aw.gj rfl Tryz.underlying30 Tryz.isAgg30 rfl rfl (aw.gj rfl Tryz.underlying3 Tryz.isAgg3 rfl rfl (by simp[aw.kN]))) b c hy
theorem akV:p1 Tryz.prog bc 32 Ii:=by intro f i F w xs ys d e j hy o a x y t' b c g h w';obtain rfl:=eG i;obtain⟨_,_,rfl,rfl,_,_,rfl,rfl,rfl⟩:=j;obtain⟨_,_,rfl,rfl,_,_,rfl,rfl,rfl⟩:=hy;cases b;exact ado c g h;exact adi c g h
theorem adl{o:Oper}{a:Act}{w:World}{t':TypeId}{x y:Operand}{X Y:ad.p3}(b:o.op= .binOp .eql 104 x y t')(c:a.eval x= .agg #[.int .i64 X.dU,.int .i64 X.Op,.int .i64 X.A,.int .i64 X.B])(hy:a.eval y= .agg #[.int .i64 Y.dU,.int .i64 Y.Op,.int .i64 Y.A,.int .i64 Y.B]):aw.aS Tryz.prog o a w (.bool (decide (X=Y))) w:=by
 have aC:decide (X=Y)=decide (X.dU=Y.dU/\X.Op=Y.Op/\X.A=Y.A/\X.B=Y.B/\True):=by rcases X with⟨_,_,_,_⟩;rcases Y with⟨_,_,_,_⟩;simp
 rw[aC];exact aw.zm Tryz.underlying104 (by kernel_rfl) (by kernel_rfl) (aw.gj rfl Tryz.underlying3 Tryz.isAgg3 rfl rfl (aw.gj rfl Tryz.underlying3 Tryz.isAgg3 rfl rfl (aw.gj rfl Tryz.underlying3 Tryz.isAgg3 rfl rfl (aw.gj rfl Tryz.underlying3 Tryz.isAgg3 rfl rfl (by simp[aw.kN]))))) b c hy
theorem adr{o:Oper}{a:Act}{w:World}{t':TypeId}{x y:Operand}{X Y:ad.p3}(b:o.op= .binOp .neq 104 x y t')(c:a.eval x= .agg #[.int .i64 X.dU,.int .i64 X.Op,.int .i64 X.A,.int .i64 X.B])(hy:a.eval y= .agg #[.int .i64 Y.dU,.int .i64 Y.Op,.int .i64 Y.A,.int .i64 Y.B]):aw.aS Tryz.prog o a w (.bool (!decide (X=Y))) w:=by
 have aC:decide (X=Y)=decide (X.dU=Y.dU/\X.Op=Y.Op/\X.A=Y.A/\X.B=Y.B/\True):=by rcases X with⟨_,_,_,_⟩;rcases Y with⟨_,_,_,_⟩;simp
 rw[aC];exact aw.zn Tryz.underlying104 (by kernel_rfl) (by kernel_rfl) (aw.gj rfl Tryz.underlying3 Tryz.isAgg3 rfl rfl (aw.gj rfl Tryz.underlying3 Tryz.isAgg3 rfl rfl (aw.gj rfl Tryz.underlying3 Tryz.isAgg3 rfl rfl (aw.gj rfl Tryz.underlying3 Tryz.isAgg3 rfl rfl (by simp[aw.kN]))))) b c hy
theorem akT:p1 Tryz.prog bc 104 If:=by intro f i F w xs ys d e j hy o a x y t' b c g h w';obtain rfl:=eG i;obtain⟨_,_,rfl,rfl,_,_,rfl,rfl,_,_,rfl,rfl,_,_,rfl,rfl,rfl⟩:=j;obtain⟨_,_,rfl,rfl,_,_,rfl,rfl,_,_,rfl,rfl,_,_,rfl,rfl,rfl⟩:=hy;cases b;exact adr c g h;exact adl c g h
theorem RA:Iv Tryz.prog bc bc.es:=⟨er rfl,er rfl,er rfl,er rfl,er rfl,er rfl,er rfl,er rfl,er rfl,er rfl,er rfl,akT,er rfl,er rfl,er rfl,akV,er rfl,er rfl,er rfl,er rfl,er rfl,er rfl,akS,er rfl,er rfl,er rfl,er rfl,er rfl,er rfl,er rfl,er rfl,akZ,akX,akU,er rfl,er rfl,er rfl,er rfl,er rfl,er rfl,er rfl,er rfl,er rfl,trivial⟩
theorem Su:FJ Tryz.prog aU.b3=true:=by kernel_rfl
theorem PZ(F:Nat->Prop)(w:World)(l:List UInt8)(xs:List Value)(h:c' GB F w xs l):c' (bc.ty 5) F w xs l:=by refine F_ (A:=GB) (B:=bc.ty 5) (λ cs d h=>?_) h;change eA (λ t=>(e7 IA t).ty) F w [.y] cs (d,());exact⟨_,_,h,rfl,rfl⟩
theorem nN:cJ aU:=⟨Wx,λ f a=>U8 (Mv Su a),by kernel_rfl,λ l=>rfl,PZ,λ t=>Iu RA⟩
theorem z3:cJ iT:=⟨Wx,λ f a=>U8 (Mv Su a),by kernel_rfl,λ l=>rfl,PZ,λ t=>Iu RA⟩
end Go.Proofs.YtifhjkbiiekamaaGreatDoor
namespace ad
def p9(a:Int)(b:Int)(c:Int):Option (Bool):=some ((decide (b<=a))&&(decide (a<=c)))
def km(a:Int)(b:Int)(c:Int):Option (Bool):=some ((decide (b<=a))&&(decide (a<=c)))
def ES(a:Int):Option (Bool):=some ((decide (a=3))||(decide (a=4)))
def vS(b:List UInt8):Nat->Int->Option (Way (Bool) (Unit))
 |0,_=>none
 |bZ+1,c=>
  cond (decide (c<(b.length:Int))) ((idx b c).bind λ a=>
  cond (((((decide ((a.toNat:Int)<97))||(decide (122<(a.toNat:Int))))&&((decide ((a.toNat:Int)<65))||(decide (90<(a.toNat:Int)))))&&((decide ((a.toNat:Int)<48))||(decide (57<(a.toNat:Int)))))&&(!decide ((a.toNat:Int)=95))) (some (.out false)) (vS b bZ (bj (c+1)))) (some (.go ()))
def k5(F:Nat)(s_:List UInt8):Option (Bool):=
 (bytesOf s_).bind λ a=>
 cO (α:=Unit) (vS a F 0) λ(_:Unit)=>
 some ((!decide (s_=[]))&&(decide ((s_.length:Int)<=20)))
def qV(F:Nat)(a:Kind):Option (Bool):=
 (ES a.Kind).bind λ b=>
 cond (b) ((k5 F a.ao).bind λ c=>
 some c) (some (((decide (a.Kind=1))||(decide (a.Kind=2)))&&(decide (a.ao=[]))))
def oQ(s_:List UInt8):Nat->Int->Option (Way (Bool) (Unit))
 |0,_=>none
 |bZ+1,a=>
  cond (decide (a<(s_.length:Int))) ((idx s_ a).bind λ vn=>
  cond (!(((((decide (97<=(vn.toNat:Int)))&&(decide ((vn.toNat:Int)<=122)))||((decide (65<=(vn.toNat:Int)))&&(decide ((vn.toNat:Int)<=90))))||((decide (48<=(vn.toNat:Int)))&&(decide ((vn.toNat:Int)<=57))))||(decide ((vn.toNat:Int)=95)))) (some (.out false)) (oQ s_ bZ (bj (a+1)))) (some (.go ()))
def lF(F:Nat)(s_:List UInt8):Option (Bool):=
 cO (α:=Unit) (oQ s_ F 0) λ(_:Unit)=>
 some ((decide (1<=(s_.length:Int)))&&(decide ((s_.length:Int)<=20)))
def p7(F:Nat)(a:Kind):Option (Bool):=
 cond ((decide (a.Kind=1))||(decide (a.Kind=2))) (some (decide (a.ao=[]))) (cond ((decide (a.Kind=3))||(decide (a.Kind=4))) ((lF F a.ao).bind λ b=>
 some b) (some false))
def sU(F:Nat)(a:Method):Nat->Int->Option (Way (Int) (Unit))
 |0,_=>none
 |bZ+1,b=>
  cond (decide (b<(a.cg.length:Int))) ((idx a.cg b).bind λ d=>
  (qV F (⟨d.Kind,d.ao⟩:Kind)).bind λ c=>
  cond (!c) (some (.out 7)) (sU F a bZ (bj (b+1)))) (some (.go ()))
def vW(F:Nat)(b:Method):Nat->Int->Option (Way (Int) (Unit))
 |0,_=>none
 |fm+1,c=>
  cond (decide (c<(b.ck.length:Int))) ((idx b.ck c).bind λ a=>
  (k5 F a.ao).bind λ d=>
  cond (!d) (some (.out 1)) ((km a.From 0 200).bind λ e=>
  cond (!e) (some (.out 3)) ((km a.To 0 200).bind λ f=>
  cond (!f) (some (.out 3)) ((km a.dU 0 200).bind λ g=>
  cond (!g) (some (.out 3)) (vW F b fm (bj (c+1))))))) (some (.go ()))
def n1(F:Nat)(b:Method):Nat->Int->Option (Way (Int) (Unit))
 |0,_=>none
 |ho+1,c=>
  cond (decide (c<(b.ck.length:Int))) ((idx b.ck c).bind λ a=>
  (k5 F a.ao).bind λ alD=>
  cond (!alD) (some (.out 1)) ((km a.From 0 200).bind λ d=>
  cond (!d) (some (.out 3)) ((km a.To 0 200).bind λ e=>
  cond (!e) (some (.out 3)) ((km a.dU 0 200).bind λ f=>
  cond (!f) (some (.out 3)) (n1 F b ho (bj (c+1))))))) (some (.go ()))
def vV(F:Nat)(a:Method):Option (Int):=
 (k5 F a.Name).bind λ c=>
 cond (!c) (some 1) (cond (((decide (4<(a.cg.length:Int)))||(decide (200<(a.Code.length:Int))))||(decide (4<(a.ck.length:Int)))) (some 2) ((km a.fP 0 10).bind λ d=>
 cond (!d) (some 3) ((km a.fO 0 10).bind λ e=>
 cond (!e) (some 3) (cO (α:=Unit) (sU F a F 0) λ(_:Unit)=>
 cond (!decide ((⟨a.Returns.Kind,a.Returns.ao⟩:Kind)=(⟨0,[]⟩:Kind))) ((qV F (⟨a.Returns.Kind,a.Returns.ao⟩:Kind)).bind λ b=>
 cond (!b) (some 7) (cO (α:=Unit) (vW F a F 0) λ(_:Unit)=>
 some 0)) (cO (α:=Unit) (n1 F a F 0) λ(_:Unit)=>
 some 0)))))
def vT(F:Nat)(c_:ao):Nat->Int->Option (Way (Int) (Unit))
 |0,_=>none
 |bZ+1,a=>
  cond (decide (a<(c_.Fields.length:Int))) ((idx c_.Fields a).bind λ b=>
  (k5 F b.Name).bind λ c=>
  cond (!c) (some (.out 1)) ((qV F (⟨b.Kind.Kind,b.Kind.ao⟩:Kind)).bind λ d=>
  cond (!d) (some (.out 7)) (vT F c_ bZ (bj (a+1))))) (some (.go ()))
def vU(F:Nat)(c_:ao):Nat->Int->Option (Way (Int) (Unit))
 |0,_=>none
 |fm+1,b=>
  cond (decide (b<(c_.a3.length:Int))) ((idx c_.a3 b).bind λ a=>
  (vV F (⟨a.Name,a.Static,a.cg,(⟨a.Returns.Kind,a.Returns.ao⟩:Kind),a.fP,a.fO,a.Code,a.ck⟩:Method)).bind λ c=>
  cond (!decide (c=0)) (some (.out c)) (vU F c_ fm (bj (b+1)))) (some (.go ()))
def qU(F:Nat)(c_:ao):Nat->Int->Option (Way (Int) (Unit))
 |0,_=>none
 |ho+1,a=>
  cond (decide (a<(c_.Fields.length:Int))) ((idx c_.Fields a).bind λ b=>
  (k5 F b.Name).bind λ c=>
  cond (!c) (some (.out 1)) ((qV F (⟨b.Kind.Kind,b.Kind.ao⟩:Kind)).bind λ d=>
  cond (!d) (some (.out 7)) (qU F c_ ho (bj (a+1))))) (some (.go ()))
def n0(F:Nat)(c_:ao):Nat->Int->Option (Way (Int) (Unit))
 |0,_=>none
 |k7+1,b=>
  cond (decide (b<(c_.a3.length:Int))) ((idx c_.a3 b).bind λ a=>
  (vV F (⟨a.Name,a.Static,a.cg,(⟨a.Returns.Kind,a.Returns.ao⟩:Kind),a.fP,a.fO,a.Code,a.ck⟩:Method)).bind λ c=>
  cond (!decide (c=0)) (some (.out c)) (n0 F c_ k7 (bj (b+1)))) (some (.go ()))
def Bb(F:Nat)(c_:ao):Option (Int):=
 (k5 F c_.Name).bind λ a=>
 cond (!a) (some 1) (cond (!decide (c_.ch=[])) ((k5 F c_.ch).bind λ b=>
 cond (!b) (some 1) (cond ((decide (6<(c_.Fields.length:Int)))||(decide (8<(c_.a3.length:Int)))) (some 2) (cO (α:=Unit) (vT F c_ F 0) λ(_:Unit)=>
 cO (α:=Unit) (vU F c_ F 0) λ(_:Unit)=>
 some 0))) (cond ((decide (6<(c_.Fields.length:Int)))||(decide (8<(c_.a3.length:Int)))) (some 2) (cO (α:=Unit) (qU F c_ F 0) λ(_:Unit)=>
 cO (α:=Unit) (n0 F c_ F 0) λ(_:Unit)=>
 some 0)))
def sT(F:Nat)(a0:List ao):Nat->Int->Option (Way (Int) (Unit))
 |0,_=>none
 |bZ+1,b=>
  cond (decide (b<(a0.length:Int))) ((idx a0 b).bind λ a=>
  (Bb F (⟨a.Name,a.ch,a.Fields,a.a3⟩:ao)).bind λ c=>
  cond (!decide (c=0)) (some (.out c)) (sT F a0 bZ (bj (b+1)))) (some (.go ()))
def Ba(F:Nat)(a0:List ao):Option (Int):=
 cond (decide (10<(a0.length:Int))) (some 2) (cO (α:=Unit) (sT F a0 F 0) λ(_:Unit)=>
 some 0)
def uT(F:Nat)(a:Method):Nat->Int->Option (Way (Int) (Unit))
 |0,_=>none
 |bZ+1,b=>
  cond (decide (b<(a.cg.length:Int))) ((idx a.cg b).bind λ c=>
  (p7 F c).bind λ d=>
  cond (!d) (some (.out 7)) (uT F a bZ (bj (b+1)))) (some (.go ()))
def uU(F:Nat)(b:Method):Nat->Int->Option (Way (Int) (Unit))
 |0,_=>none
 |fm+1,c=>
  cond (decide (c<(b.ck.length:Int))) ((idx b.ck c).bind λ a=>
  (lF F a.ao).bind λ d=>
  cond (!d) (some (.out 1)) ((p9 a.From 0 200).bind λ e=>
  cond (!e) (some (.out 3)) ((p9 a.To 0 200).bind λ f=>
  cond (!f) (some (.out 3)) ((p9 a.dU 0 200).bind λ g=>
  cond (!g) (some (.out 3)) (uU F b fm (bj (c+1))))))) (some (.go ()))
def uS(F:Nat)(a:Method):Option (Int):=
 (lF F a.Name).bind λ c=>
 cond (!c) (some 1) (cond (((decide (4<(a.cg.length:Int)))||(decide (200<(a.Code.length:Int))))||(decide (4<(a.ck.length:Int)))) (some 2) ((p9 a.fP 0 10).bind λ d=>
 cond (!d) (some 3) ((p9 a.fO 0 10).bind λ e=>
 cond (!e) (some 3) (cO (α:=Unit) (uT F a F 0) λ(_:Unit)=>
 (p7 F (⟨a.Returns.Kind,a.Returns.ao⟩:Kind)).bind λ b=>
 cond ((!b)&&((!decide (a.Returns.Kind=0))||(!decide (a.Returns.ao=[])))) (some 7) (cO (α:=Unit) (uU F a F 0) λ(_:Unit)=>
 some 0)))))
def xo(F:Nat)(a:ao):Nat->Int->Option (Way (Int) (Unit))
 |0,_=>none
 |fm+1,b=>
  cond (decide (b<(a.Fields.length:Int))) ((idx a.Fields b).bind λ c=>
  (lF F c.Name).bind λ d=>
  cond (!d) (some (.out 1)) ((idx a.Fields b).bind λ f=>
  (p7 F (⟨f.Kind.Kind,f.Kind.ao⟩:Kind)).bind λ e=>
  cond (!e) (some (.out 7)) (xo F a fm (bj (b+1))))) (some (.go ()))
def xp(F:Nat)(a:ao):Nat->Int->Option (Way (Int) (Unit))
 |0,_=>none
 |ho+1,b=>
  cond (decide (b<(a.a3.length:Int))) ((idx a.a3 b).bind λ c=>
  (uS F c).bind λ d=>
  cond (!decide (d=0)) (some (.out d)) (xp F a ho (bj (b+1)))) (some (.go ()))
def r7(F:Nat)(a:ao):Nat->Int->Option (Way (Int) (Unit))
 |0,_=>none
 |k7+1,b=>
  cond (decide (b<(a.Fields.length:Int))) ((idx a.Fields b).bind λ c=>
  (lF F c.Name).bind λ d=>
  cond (!d) (some (.out 1)) ((idx a.Fields b).bind λ f=>
  (p7 F (⟨f.Kind.Kind,f.Kind.ao⟩:Kind)).bind λ e=>
  cond (!e) (some (.out 7)) (r7 F a k7 (bj (b+1))))) (some (.go ()))
def r8(F:Nat)(a:ao):Nat->Int->Option (Way (Int) (Unit))
 |0,_=>none
 |v0+1,b=>
  cond (decide (b<(a.a3.length:Int))) ((idx a.a3 b).bind λ c=>
  (uS F c).bind λ d=>
  cond (!decide (d=0)) (some (.out d)) (r8 F a v0 (bj (b+1)))) (some (.go ()))
def uG(F:Nat)(a0:List ao):Nat->Int->Option (Way (Int) (Unit))
 |0,_=>none
 |bZ+1,b=>
  cond (decide (b<(a0.length:Int))) (c5 (α:=Unit) ((idx a0 b).bind λ a=>
  (lF F a.Name).bind λ c=>
  cond (!c) (some (.out 1)) (cond (!decide (a.ch=[])) ((lF F a.ch).bind λ d=>
  cond (!d) (some (.out 1)) (cond ((decide (6<(a.Fields.length:Int)))||(decide (8<(a.a3.length:Int)))) (some (.out 2)) (c5 (α:=Unit) (xo F a F 0) λ(_:Unit)=>
  c5 (α:=Unit) (xp F a F 0) λ(_:Unit)=>
  some (.go ())))) (cond ((decide (6<(a.Fields.length:Int)))||(decide (8<(a.a3.length:Int)))) (some (.out 2)) (c5 (α:=Unit) (r7 F a F 0) λ(_:Unit)=>
  c5 (α:=Unit) (r8 F a F 0) λ(_:Unit)=>
  some (.go ()))))) λ(_:Unit)=>
  uG F a0 bZ (bj (b+1))) (some (.go ()))
def zG(F:Nat)(a0:List ao):Option (Int):=
 cond (decide (10<(a0.length:Int))) (some 2) (cO (α:=Unit) (uG F a0 F 0) λ(_:Unit)=>
 some 0)
def mx(b:List Kind)(b8:List Kind):Nat->Int->Option (Way (Bool) (Unit))
 |0,_=>none
 |bZ+1,a=>
  cond (decide (a<(b.length:Int))) ((idx b a).bind λ c=>
  (idx b8 a).bind λ d=>
  cond (!decide (c=d)) (some (.out false)) (mx b b8 bZ (bj (a+1)))) (some (.go ()))
def p8(F:Nat)(a:List Kind)(b8:List Kind):Option (Bool):=
 cond (!decide ((a.length:Int)=(b8.length:Int))) (some false) (cO (α:=Unit) (mx a b8 F 0) λ(_:Unit)=>
 some true)
def u2(b:List Field)(b8:List Field):Nat->Int->Option (Way (Bool) (Unit))
 |0,_=>none
 |bZ+1,a=>
  cond (decide (a<(b.length:Int))) ((idx b a).bind λ c=>
  (idx b8 a).bind λ d=>
  cond (!decide (c=d)) (some (.out false)) (u2 b b8 bZ (bj (a+1)))) (some (.go ()))
def xu(F:Nat)(a:List Field)(b8:List Field):Option (Bool):=
 cond (!decide ((a.length:Int)=(b8.length:Int))) (some false) (cO (α:=Unit) (u2 a b8 F 0) λ(_:Unit)=>
 some true)
def u1(b:Method)(e:Method):Nat->Int->Option (Way (Bool) (Unit))
 |0,_=>none
 |ho+1,a=>
  cond (decide (a<(b.ck.length:Int))) ((idx b.ck a).bind λ c=>
  (idx e.ck a).bind λ d=>
  cond (!decide (c=d)) (some (.out false)) (u1 b e ho (bj (a+1)))) (some (.go ()))
def u0(F:Nat)(d:ao)(f:ao):Nat->Int->Option (Way (Bool) (Unit))
 |0,_=>none
 |fm+1,c=>
  cond (decide (c<(d.a3.length:Int))) (c5 (α:=Unit) ((idx d.a3 c).bind λ a=>
  (idx f.a3 c).bind λ b=>
  cond ((!decide (a.Name=b.Name))||(!(a.Static==b.Static))) (some (.out false)) ((p8 F a.cg b.cg).bind λ e=>
  cond (!e) (some (.out false)) (cond (((((!decide ((⟨a.Returns.Kind,a.Returns.ao⟩:Kind)=(⟨b.Returns.Kind,b.Returns.ao⟩:Kind)))||(!decide (a.fP=b.fP)))||(!decide (a.fO=b.fO)))||(!decide (a.Code=b.Code)))||(!decide ((a.ck.length:Int)=(b.ck.length:Int)))) (some (.out false)) (c5 (α:=Unit) (u1 a b F 0) λ(_:Unit)=>
  some (.go ()))))) λ(_:Unit)=>
  u0 F d f fm (bj (c+1))) (some (.go ()))
def uZ(F:Nat)(d:List ao)(b8:List ao):Nat->Int->Option (Way (Bool) (Unit))
 |0,_=>none
 |bZ+1,c=>
  cond (decide (c<(d.length:Int))) (c5 (α:=Unit) ((idx d c).bind λ a=>
  (idx b8 c).bind λ b=>
  cond ((!decide (a.Name=b.Name))||(!decide (a.ch=b.ch))) (some (.out false)) ((xu F a.Fields b.Fields).bind λ e=>
  cond ((!e)||(!decide ((a.a3.length:Int)=(b.a3.length:Int)))) (some (.out false)) (c5 (α:=Unit) (u0 F a b F 0) λ(_:Unit)=>
  some (.go ())))) λ(_:Unit)=>
  uZ F d b8 bZ (bj (c+1))) (some (.go ()))
def xt(F:Nat)(a:List ao)(b8:List ao):Option (Bool):=
 cond (!decide ((a.length:Int)=(b8.length:Int))) (some false) (cO (α:=Unit) (uZ F a b8 F 0) λ(_:Unit)=>
 some true)
def sb(b:bE)(b8:bE):Nat->Int->Option (Way (Bool) (Unit))
 |0,_=>none
 |bZ+1,a=>
  cond (decide (a<(b.cu.length:Int))) ((idx b.cu a).bind λ c=>
  (idx b8.cu a).bind λ d=>
  cond (!decide (c=d)) (some (.out false)) (sb b b8 bZ (bj (a+1)))) (some (.go ()))
def u3(F:Nat)(a:bE)(b8:bE):Nat->Int->Option (Way (Bool) (Unit))
 |0,_=>none
 |fm+1,Fs=>
  cond (decide (Fs<(a.Fields.length:Int))) ((idx a.Fields Fs).bind λ b=>
  (idx b8.Fields Fs).bind λ c=>
  (xu F b c).bind λ d=>
  cond (!d) (some (.out false)) (u3 F a b8 fm (bj (Fs+1)))) (some (.go ()))
def u5(c:bE)(b8:bE)(a:Int):Nat->Int->Option (Way (Bool) (Unit))
 |0,_=>none
 |k7+1,b=>
  (idx c.Names a).bind λ d=>
  cond (decide (b<(d.length:Int))) ((idx c.Names a).bind λ e=>
  (idx e b).bind λ f=>
  (idx b8.Names a).bind λ g=>
  (idx g b).bind λ h=>
  cond (!decide (f=h)) (some (.out false)) (u5 c b8 a k7 (bj (b+1)))) (some (.go ()))
def u4(F:Nat)(b:bE)(b8:bE):Nat->Int->Option (Way (Bool) (Unit))
 |0,_=>none
 |ho+1,a=>
  cond (decide (a<(b.Names.length:Int))) (c5 (α:=Unit) ((idx b.Names a).bind λ c=>
  (idx b8.Names a).bind λ d=>
  cond (!decide ((c.length:Int)=(d.length:Int))) (some (.out false)) (c5 (α:=Unit) (u5 b b8 a F 0) λ(_:Unit)=>
  some (.go ()))) λ(_:Unit)=>
  u4 F b b8 ho (bj (a+1))) (some (.go ()))
def u7(b:bE)(b8:bE)(a:Int):Nat->Int->Option (Way (Bool) (Unit))
 |0,_=>none
 |Bg+1,Fz=>
  (idx b.cy a).bind λ c=>
  cond (decide (Fz<(c.length:Int))) ((idx b.cy a).bind λ d=>
  (idx d Fz).bind λ e=>
  (idx b8.cy a).bind λ f=>
  (idx f Fz).bind λ g=>
  cond (!decide (e=g)) (some (.out false)) (u7 b b8 a Bg (bj (Fz+1)))) (some (.go ()))
def u6(F:Nat)(b:bE)(b8:bE):Nat->Int->Option (Way (Bool) (Unit))
 |0,_=>none
 |v0+1,a=>
  cond (decide (a<(b.cy.length:Int))) (c5 (α:=Unit) ((idx b.cy a).bind λ c=>
  (idx b8.cy a).bind λ d=>
  cond (!decide ((c.length:Int)=(d.length:Int))) (some (.out false)) (c5 (α:=Unit) (u7 b b8 a F 0) λ(_:Unit)=>
  some (.go ()))) λ(_:Unit)=>
  u6 F b b8 v0 (bj (a+1))) (some (.go ()))
def xv(F:Nat)(a:bE)(b8:bE):Option (Bool):=
 (xt F a.dF b8.dF).bind λ b=>
 cond (((((!b)||(!decide ((b8.cu.length:Int)=(a.cu.length:Int))))||(!decide ((a.Fields.length:Int)=(b8.Fields.length:Int))))||(!decide ((a.Names.length:Int)=(b8.Names.length:Int))))||(!decide ((a.cy.length:Int)=(b8.cy.length:Int)))) (some false) (cO (α:=Unit) (sb a b8 F 0) λ(_:Unit)=>
 cO (α:=Unit) (u3 F a b8 F 0) λ(_:Unit)=>
 cO (α:=Unit) (u4 F a b8 F 0) λ(_:Unit)=>
 cO (α:=Unit) (u6 F a b8 F 0) λ(_:Unit)=>
 some true)
def uV(a0:List ao)(c:List UInt8):Nat->Int->Option (Way (Int) (Unit))
 |0,_=>none
 |bZ+1,a=>
  cond (decide (a<(a0.length:Int))) ((idx a0 a).bind λ b=>
  cond (decide (b.Name=c)) (some (.out a)) (uV a0 c bZ (bj (a+1)))) (some (.go ()))
def iD(F:Nat)(a0:List ao)(a:List UInt8):Option (Int):=
 cO (α:=Unit) (uV a0 a F 0) λ(_:Unit)=>
 some (-1)
def va(F:Nat)(a0:List ao):Nat->Int->(List Int)->Option (Way (List Int) (List Int))
 |0,_,_=>none
 |bZ+1,a,b=>
  cond (decide (0<=a)) (cond (decide ((a0.length:Int)<(b.length:Int))) (some (.out [])) ((cc 8 [a] b).bind λ d=>
  (idx a0 a).bind λ e=>
  (iD F a0 e.ch).bind λ c=>
  va F a0 bZ c d)) (some (.go b))
def my(F:Nat)(a0:List ao)(b:Int):Option (List Int):=
 cO (α:=List Int) (va F a0 F b []) λ(a:List Int)=>
 some a
def sc(F:Nat)(a:List Kind)(a0:List ao):Nat->Int->Option (Way (Bool) (Unit))
 |0,_=>none
 |bZ+1,b=>
  cond (decide (b<(a.length:Int))) ((idx a b).bind λ c=>
  cond (!decide (c.ao=[])) ((idx a b).bind λ d=>
  (iD F a0 d.ao).bind λ e=>
  cond (decide (e<0)) (some (.out false)) (sc F a a0 bZ (bj (b+1)))) (sc F a a0 bZ (bj (b+1)))) (some (.go ()))
def u'(F:Nat)(a0:List ao)(a:List Kind):Option (Bool):=
 cO (α:=Unit) (sc F a a0 F 0) λ(_:Unit)=>
 some true
def oM(a0:List ao)(a:List Int):Nat->(List Field)->Int->Option (List Field)
 |0,_,_=>none
 |bZ+1,f,b=>
  cond (decide (b<(a.length:Int))) ((idx a b).bind λ c=>
  (idx a0 c).bind λ d=>
  (cc 40 f d.Fields).bind λ e=>
  oM a0 a bZ e (bj (b+1))) (some f)
def uF(F:Nat)(a0:List ao)(b:Int):Option (List Field):=
 (my F a0 b).bind λ c=>
 ej (α:=List Field) (oM a0 c F [] 0) λ(a:List Field)=>
 some a
def nC(b:List (List UInt8))(ns:Method):Nat->Int->Option (Int)
 |0,_=>none
 |ho+1,a=>
  cond (decide (a<(b.length:Int))) ((idx b a).bind λ c=>
  cond (!decide (c=ns.Name)) (nC b ns ho (bj (a+1))) (some a)) (some a)
def u_(F:Nat)(a0:List ao)(b:List Int)(c:Int):Nat->(List Target)->(List (List UInt8))->Int->Option ((List Target)×(List (List UInt8)))
 |0,_,_,_=>none
 |fm+1,e,a,d=>
  (idx b c).bind λ f=>
  (idx a0 f).bind λ app=>
  cond (decide (d<(app.a3.length:Int))) (ej (α:=(List Target)×(List (List UInt8))) ((idx b c).bind λ g=>
  (idx a0 g).bind λ h=>
  (idx h.a3 d).bind λ ns=>
  ej (α:=Int) (nC a ns F 0) λ(i:Int)=>
  ej (α:=(List Target)×(List (List UInt8))) (cond (decide (i=(a.length:Int))) ((cc 16 a [ns.Name]).bind λ j=>
  (cc 16 e [(⟨0,0⟩:Target)]).bind λ k=>
  some (k,j)) (some (e,a))) λ((q,l):(List Target)×(List (List UInt8)))=>
  (idx b c).bind λ m=>
  (idx q i).bind λ r=>
  (some (q.set (i).toNat (⟨m,d⟩:Target))).bind λ n=>
  some (n,l)) λ((o,p):(List Target)×(List (List UInt8)))=>
  u_ F a0 b c fm o p (bj (d+1))) (some (e,a))
def u9(F:Nat)(a0:List ao)(a:List Int):Nat->(List Target)->(List (List UInt8))->Int->Option ((List Target)×(List (List UInt8)))
 |0,_,_,_=>none
 |bZ+1,Un,g,b=>
  cond (decide (b<(a.length:Int))) (ej (α:=(List Target)×(List (List UInt8))) (ej (α:=(List Target)×(List (List UInt8))) (u_ F a0 a b F Un g 0) λ((c,d):(List Target)×(List (List UInt8)))=>
  some (c,d)) λ((e,f):(List Target)×(List (List UInt8)))=>
  u9 F a0 a bZ e f (bj (b+1))) (some (Un,g))
def zJ(F:Nat)(a0:List ao)(c:Int):Option ((List (List UInt8))×(List Target)):=
 (my F a0 c).bind λ d=>
 ej (α:=(List Target)×(List (List UInt8))) (u9 F a0 d F [] [] 0) λ((a,b):(List Target)×(List (List UInt8)))=>
 some (b,a)
def p6(F:Nat)(a0:List ao):Nat->Int->Option (Way (Int) (Unit))
 |0,_=>none
 |bZ+1,a=>
  cond (decide (a<(a0.length:Int))) ((idx a0 a).bind λ b=>
  (iD F a0 b.Name).bind λ c=>
  cond (!decide (c=a)) (some (.out 6)) (p6 F a0 bZ (bj (a+1)))) (some (.go ()))
def uM(a0:List ao):Nat->Int->Option (Way (Int) (Unit))
 |0,_=>none
 |fm+1,a=>
  cond (decide (a<(a0.length:Int))) ((idx a0 a).bind λ b=>
  (idx a0 a).bind λ c=>
  cond (!((decide (b.Name=[79,98,106,101,99,116]))==(decide (c.ch=[])))) (some (.out 4)) (uM a0 fm (bj (a+1)))) (some (.go ()))
def r_(F:Nat)(a0:List ao):Nat->Int->Option (Way (Int) (Unit))
 |0,_=>none
 |ho+1,a=>
  cond (decide (a<(a0.length:Int))) ((idx a0 a).bind λ b=>
  cond (!decide (b.ch=[])) ((idx a0 a).bind λ c=>
  (iD F a0 c.ch).bind λ d=>
  cond (decide (d<0)) (some (.out 5)) (r_ F a0 ho (bj (a+1)))) (r_ F a0 ho (bj (a+1)))) (some (.go ()))
def uN(F:Nat)(a0:List ao):Nat->Int->Option (Way (Int) (Unit))
 |0,_=>none
 |k7+1,a=>
  cond (decide (a<(a0.length:Int))) ((my F a0 a).bind λ b=>
  cond (decide ((b.length:Int)=0)) (some (.out 4)) (uN F a0 k7 (bj (a+1)))) (some (.go ()))
def uO(F:Nat)(a0:List ao)(a:Int):Nat->Int->Option (Way (Int) (Unit))
 |0,_=>none
 |Bg+1,b=>
  (idx a0 a).bind λ c=>
  cond (decide (b<(c.Fields.length:Int))) ((idx a0 a).bind λ d=>
  (idx d.Fields b).bind λ f=>
  (u' F a0 [(⟨f.Kind.Kind,f.Kind.ao⟩:Kind)]).bind λ e=>
  cond (!e) (some (.out 5)) (uO F a0 a Bg (bj (b+1)))) (some (.go ()))
def uQ(F:Nat)(a0:List ao)(a:Method):Nat->Int->Option (Way (Int) (Unit))
 |0,_=>none
 |ah1+1,b=>
  cond (decide (b<(a.ck.length:Int))) ((idx a.ck b).bind λ c=>
  (iD F a0 c.ao).bind λ d=>
  cond (decide (d<0)) (some (.out 5)) (uQ F a0 a ah1 (bj (b+1)))) (some (.go ()))
def uP(F:Nat)(a0:List ao)(b:Int):Nat->Int->Option (Way (Int) (Unit))
 |0,_=>none
 |ah0+1,c=>
  (idx a0 b).bind λ d=>
  cond (decide (c<(d.a3.length:Int))) (c5 (α:=Unit) ((idx a0 b).bind λ e=>
  (idx e.a3 c).bind λ a=>
  (u' F a0 a.cg).bind λ f=>
  cond (!f) (some (.out 5)) ((u' F a0 [(⟨a.Returns.Kind,a.Returns.ao⟩:Kind)]).bind λ g=>
  cond (!g) (some (.out 5)) (c5 (α:=Unit) (uQ F a0 a F 0) λ(_:Unit)=>
  some (.go ())))) λ(_:Unit)=>
  uP F a0 b ah0 (bj (c+1))) (some (.go ()))
def r'(F:Nat)(a0:List ao):Nat->Int->Option (Way (Int) (Unit))
 |0,_=>none
 |v0+1,a=>
  cond (decide (a<(a0.length:Int))) (c5 (α:=Unit) (c5 (α:=Unit) (uO F a0 a F 0) λ(_:Unit)=>
  c5 (α:=Unit) (uP F a0 a F 0) λ(_:Unit)=>
  some (.go ())) λ(_:Unit)=>
  r' F a0 v0 (bj (a+1))) (some (.go ()))
def uI(a:List Field)(b:Int):Nat->Int->Option (Way (Int) (Unit))
 |0,_=>none
 |ahT+1,c=>
  cond (decide (c<b)) ((idx a c).bind λ d=>
  (idx a b).bind λ e=>
  cond (decide (d.Name=e.Name)) (some (.out 6)) (uI a b ahT (bj (c+1)))) (some (.go ()))
def uH(F:Nat)(a:List Field):Nat->Int->Option (Way (Int) (Unit))
 |0,_=>none
 |ahS+1,b=>
  cond (decide (b<(a.length:Int))) (c5 (α:=Unit) (c5 (α:=Unit) (uI a b F 0) λ(_:Unit)=>
  some (.go ())) λ(_:Unit)=>
  uH F a ahS (bj (b+1))) (some (.go ()))
def oO(a:ao)(b:Int):Nat->Int->Option (Way (Int) (Unit))
 |0,_=>none
 |ahV+1,c=>
  cond (decide (c<b)) ((idx a.a3 c).bind λ d=>
  (idx a.a3 b).bind λ e=>
  cond (decide (d.Name=e.Name)) (some (.out 6)) (oO a b ahV (bj (c+1)))) (some (.go ()))
def oN(F:Nat)(a:ao):Nat->Int->Option (Way (Int) (Unit))
 |0,_=>none
 |ahU+1,b=>
  cond (decide (b<(a.a3.length:Int))) (c5 (α:=Unit) (c5 (α:=Unit) (oO a b F 0) λ(_:Unit)=>
  some (.go ())) λ(_:Unit)=>
  oN F a ahU (bj (b+1))) (some (.go ()))
def uR(F:Nat)(a0:List ao):Nat->Int->Option (Way (Int) (Unit))
 |0,_=>none
 |ah2+1,a=>
  cond (decide (a<(a0.length:Int))) (c5 (α:=Unit) ((uF F a0 a).bind λ b=>
  c5 (α:=Unit) (uH F b F 0) λ(_:Unit)=>
  (idx a0 a).bind λ c=>
  c5 (α:=Unit) (oN F c F 0) λ(_:Unit)=>
  some (.go ())) λ(_:Unit)=>
  uR F a0 ah2 (bj (a+1))) (some (.go ()))
def r9(F:Nat)(a0:List ao)(f:Int)(c:List Int)(d:Int)(g:Int):Nat->Int->Option (Way (Int) (Unit))
 |0,_=>none
 |Uf+1,e=>
  (idx c d).bind λ h=>
  (idx a0 h).bind λ i=>
  cond (decide (e<(i.a3.length:Int))) ((idx a0 f).bind λ j=>
  (idx j.a3 g).bind λ a=>
  (idx c d).bind λ k=>
  (idx a0 k).bind λ l=>
  (idx l.a3 e).bind λ b=>
  cond (decide (a.Name=b.Name)) (cond (a.Static||b.Static) (some (.out 4)) ((p8 F a.cg b.cg).bind λ m=>
  cond (!m) (some (.out 4)) (cond (!decide ((⟨a.Returns.Kind,a.Returns.ao⟩:Kind)=(⟨b.Returns.Kind,b.Returns.ao⟩:Kind))) (some (.out 4)) (r9 F a0 f c d g Uf (bj (e+1)))))) (r9 F a0 f c d g Uf (bj (e+1)))) (some (.go ()))
def uL(F:Nat)(a0:List ao)(a:Int)(d:List Int)(e:Int):Nat->Int->Option (Way (Int) (Unit))
 |0,_=>none
 |ahY+1,b=>
  (idx a0 a).bind λ c=>
  cond (decide (b<(c.a3.length:Int))) (c5 (α:=Unit) (c5 (α:=Unit) (r9 F a0 a d e b F 0) λ(_:Unit)=>
  some (.go ())) λ(_:Unit)=>
  uL F a0 a d e ahY (bj (b+1))) (some (.go ()))
def uK(F:Nat)(a0:List ao)(c:Int)(a:List Int):Nat->Int->Option (Way (Int) (Unit))
 |0,_=>none
 |ahX+1,b=>
  cond (decide (b<(bj ((a.length:Int)-1)))) (c5 (α:=Unit) (c5 (α:=Unit) (uL F a0 c a b F 0) λ(_:Unit)=>
  some (.go ())) λ(_:Unit)=>
  uK F a0 c a ahX (bj (b+1))) (some (.go ()))
def uJ(F:Nat)(a0:List ao):Nat->Int->Option (Way (Int) (Unit))
 |0,_=>none
 |ahW+1,a=>
  cond (decide (a<(a0.length:Int))) (c5 (α:=Unit) ((my F a0 a).bind λ b=>
  c5 (α:=Unit) (uK F a0 a b F 0) λ(_:Unit)=>
  some (.go ())) λ(_:Unit)=>
  uJ F a0 ahW (bj (a+1))) (some (.go ()))
def zH(F:Nat)(a0:List ao):Option (Int):=
 (zG F a0).bind λ e=>
 cond (!decide (e=0)) (some e) (cO (α:=Unit) (p6 F a0 F 0) λ(_:Unit)=>
 (iD F a0 [79,98,106,101,99,116]).bind λ a=>
 cond (decide (a<0)) (some 5) ((iD F a0 [69,114,114,111,114]).bind λ b=>
 cond (decide (b<0)) (some 5) (cO (α:=Unit) (uM a0 F 0) λ(_:Unit)=>
 cO (α:=Unit) (r_ F a0 F 0) λ(_:Unit)=>
 cO (α:=Unit) (uN F a0 F 0) λ(_:Unit)=>
 (iD F a0 [69,114,114,111,114]).bind λ f=>
 (uF F a0 f).bind λ g=>
 (idx a0 f).bind λ c=>
 cond ((!decide (c.ch=[79,98,106,101,99,116]))||(decide ((g.length:Int)=0))) (some 4) ((idx g 0).bind λ d=>
 cond (!decide (d.Kind.Kind=1)) (some 4) (cO (α:=Unit) (r' F a0 F 0) λ(_:Unit)=>
 cO (α:=Unit) (uR F a0 F 0) λ(_:Unit)=>
 cO (α:=Unit) (uJ F a0 F 0) λ(_:Unit)=>
 some 0)))))
def nB(F:Nat)(a0:List ao):Nat->(List (List Target))->(List (List (List UInt8)))->(List (List Field))->(List Int)->Int->Option (Way (bE×Int) ((List (List Target))×(List (List (List UInt8)))×(List (List Field))×(List Int)))
 |0,_,_,_,_,_=>none
 |bZ+1,i,j,k,l,a=>
  cond (decide (a<(a0.length:Int))) ((uF F a0 a).bind λ m=>
  (zJ F a0 a).bind λ b=>
  cond ((decide (12<(m.length:Int)))||(decide (16<(b.1.length:Int)))) (some (.out ((⟨[],[],[],[],[]⟩:bE),2))) ((idx a0 a).bind λ c=>
  (iD F a0 c.ch).bind λ d=>
  (cc 8 l [d]).bind λ e=>
  (cc 24 k [m]).bind λ f=>
  (cc 24 j [b.1]).bind λ g=>
  (cc 24 i [b.2]).bind λ h=>
  nB F a0 bZ h g f e (bj (a+1)))) (some (.go (i,j,k,l)))
def zI(F:Nat)(a0:List ao):Option (bE×Int):=
 (zH F a0).bind λ e=>
 cond (!decide (e=0)) (some ((⟨[],[],[],[],[]⟩:bE),e)) (cO (α:=(List (List Target))×(List (List (List UInt8)))×(List (List Field))×(List Int)) (nB F a0 F [] [] [] [] 0) λ((a,b,c,d):(List (List Target))×(List (List (List UInt8)))×(List (List Field))×(List Int))=>
 some ((⟨a0,d,c,b,a⟩:bE),0))
def l5(a:a7):Nat->(List ((List UInt8)×Int))->Int->Option (Way (Int×a7) (List ((List UInt8)×Int)))
 |0,_,_=>none
 |bZ+1,b,od=>
  cond (decide (od<(a.l.length:Int))) ((idx a.l od).bind λ XQ=>
  cond ((e2 b XQ.Name).isSome) (some (.out (6,(⟨a.l,b,a.cV⟩:a7)))) (l5 a bZ (la b XQ.Name od) (bj (od+1)))) (some (.go b))
def yr(F:Nat)(a:a7):Option (Int×a7):=
 cO (α:=List ((List UInt8)×Int)) (l5 a F a.bF 0) λ(b:List ((List UInt8)×Int))=>
 cond ((!((e2 b [79,98,106,101,99,116]).isSome))||(!((e2 b [69,114,114,111,114]).isSome))) (some (5,(⟨a.l,b,a.cV⟩:a7))) (some (0,(⟨a.l,b,a.cV⟩:a7)))
def rf(a:a7):Nat->Int->Option (Way (Int×a7) (Unit))
 |0,_=>none
 |bZ+1,b=>
  cond (decide (b<(a.l.length:Int))) ((idx a.l b).bind λ c=>
  cond (!((decide (c.Name=[79,98,106,101,99,116]))==(decide (c.ch=[])))) (some (.out (4,(⟨a.l,a.bF,a.cV⟩:a7)))) (rf a bZ (bj (b+1)))) (some (.go ()))
def ku(a:a7):Nat->(List Int)->Int->Option (Way (Int×a7) (List Int))
 |0,_,_=>none
 |fm+1,pk,b=>
  cond (decide (b<(a.l.length:Int))) (c5 (α:=List Int) ((idx a.l b).bind λ c=>
  c5 (α:=Int) (c5 (α:=Int) (cond (decide (c.ch=[])) (some (.go (-1))) (cond (!((e2 a.bF c.ch).isSome)) (some (.out (5,(⟨a.l,a.bF,pk⟩:a7)))) (some (.go ((e2 a.bF c.ch).getD 0))))) λ(d:Int)=>
  some (.go d)) λ(e:Int)=>
  (cc 8 pk [e]).bind λ f=>
  some (.go f)) λ(g:List Int)=>
  ku a fm g (bj (b+1))) (some (.go pk))
def po(b:a7)(c:List Int):Nat->Int->Int->Option (Int)
 |0,_,_=>none
 |k7+1,d,e=>
  cond (decide (e<(b.l.length:Int))) ((idx c d).bind λ a=>
  cond (decide (a<0)) (some a) (po b c k7 a (bj (e+1)))) (some d)
def n4(F:Nat)(a:a7)(b:List Int):Nat->Int->Option (Way (Int×a7) (Unit))
 |0,_=>none
 |ho+1,c=>
  cond (decide (c<(a.l.length:Int))) (c5 (α:=Unit) (ej (α:=Int) (ej (α:=Int) (po a b F c 0) λ(d:Int)=>
  some d) λ(e:Int)=>
  cond (decide (0<=e)) (some (.out (4,(⟨a.l,a.bF,b⟩:a7)))) (some (.go ()))) λ(_:Unit)=>
  n4 F a b ho (bj (c+1))) (some (.go ()))
def E6(F:Nat)(a:a7):Option (Int×a7):=
 cO (α:=Unit) (rf a F 0) λ(_:Unit)=>
 cO (α:=List Int) (ku a F a.cV 0) λ(b:List Int)=>
 cO (α:=Unit) (n4 F a b F 0) λ(_:Unit)=>
 some (0,(⟨a.l,a.bF,b⟩:a7))
def n6(b:a7):Nat->(List Int)->Int->Option (List Int)
 |0,_,_=>none
 |bZ+1,c,a=>
  cond (decide (0<=a)) ((cc 8 c [a]).bind λ d=>
  (idx b.cV a).bind λ e=>
  n6 b bZ d e) (some c)
def n5(F:Nat)(a:a7)(b:Int):Option (List Int):=
 ej (α:=List Int) (n6 a F [] b) λ(c:List Int)=>
 some c
def Cf(_:List Int):Option Unit:=some ()
def s9(b:a7):List Int->(List Field)->Option (List Field)
 |[],a=>some a
 |uo::Gd,a=>
  (idx b.l uo).bind λ c=>
  (cc 40 a c.Fields).bind λ d=>
  s9 b Gd d
def pq(F:Nat)(a:a7)(c:Int):Option (List Field):=
 (n5 F (⟨a.l,a.bF,a.cV⟩:a7) c).bind λ b=>
 (Cf b).bind λ d=>
 ej (α:=List Field) (s9 a b.reverse []) λ(e:List Field)=>
 some e
def E7(F:Nat)(a:a7):Option (Int):=
 (pq F (⟨a.l,a.bF,a.cV⟩:a7) ((e2 a.bF [69,114,114,111,114]).getD 0)).bind λ d=>
 (idx a.l ((e2 a.bF [69,114,114,111,114]).getD 0)).bind λ b=>
 cond ((!decide (b.ch=[79,98,106,101,99,116]))||(decide ((d.length:Int)=0))) (some 4) ((idx d 0).bind λ c=>
 cond (!decide (c.Kind.Kind=1)) (some 4) (some 0))
def wo(b:Kind)(c:List (List UInt8)):Option (List (List UInt8)):=
 cond (!decide (b.ao=[])) ((cc 16 c [b.ao]).bind λ a=>
 some a) (some c)
def rj(a:ao):Nat->(List (List UInt8))->Int->Option (List (List UInt8))
 |0,_,_=>none
 |fm+1,d,b=>
  cond (decide (b<(a.Fields.length:Int))) ((idx a.Fields b).bind λ e=>
  (wo (⟨e.Kind.Kind,e.Kind.ao⟩:Kind) d).bind λ c=>
  rj a fm c (bj (b+1))) (some d)
def rk(a:Method):Nat->(List (List UInt8))->Int->Option (List (List UInt8))
 |0,_,_=>none
 |k7+1,d,b=>
  cond (decide (b<(a.cg.length:Int))) ((idx a.cg b).bind λ e=>
  (wo (⟨e.Kind,e.ao⟩:Kind) d).bind λ c=>
  rk a k7 c (bj (b+1))) (some d)
def n_(a:Method):Nat->(List (List UInt8))->Int->Option (List (List UInt8))
 |0,_,_=>none
 |v0+1,e,b=>
  cond (decide (b<(a.ck.length:Int))) ((idx a.ck b).bind λ c=>
  (cc 16 e [c.ao]).bind λ d=>
  n_ a v0 d (bj (b+1))) (some e)
def n9(F:Nat)(b:ao):Nat->(List (List UInt8))->Int->Option (List (List UInt8))
 |0,_,_=>none
 |ho+1,h,c=>
  cond (decide (c<(b.a3.length:Int))) (ej (α:=List (List UInt8)) ((idx b.a3 c).bind λ a=>
  ej (α:=List (List UInt8)) (rk a F h 0) λ(d:List (List UInt8))=>
  (wo (⟨a.Returns.Kind,a.Returns.ao⟩:Kind) d).bind λ e=>
  ej (α:=List (List UInt8)) (n_ a F e 0) λ(f:List (List UInt8))=>
  some f) λ(g:List (List UInt8))=>
  n9 F b ho g (bj (c+1))) (some h)
def ri(F:Nat)(a:a7):Nat->(List (List UInt8))->Int->Option (List (List UInt8))
 |0,_,_=>none
 |bZ+1,f,b=>
  cond (decide (b<(a.l.length:Int))) (ej (α:=List (List UInt8)) ((idx a.l b).bind λ g=>
  ej (α:=List (List UInt8)) (rj g F f 0) λ(c:List (List UInt8))=>
  ej (α:=List (List UInt8)) (n9 F g F c 0) λ(d:List (List UInt8))=>
  some d) λ(e:List (List UInt8))=>
  ri F a bZ e (bj (b+1))) (some f)
def tj(d:a7)(a:List (List UInt8)):Nat->Int->Option (Way (Int) (Unit))
 |0,_=>none
 |Bg+1,b=>
  cond (decide (b<(a.length:Int))) ((idx a b).bind λ c=>
  cond (!((e2 d.bF c).isSome)) (some (.out 5)) (tj d a Bg (bj (b+1)))) (some (.go ()))
def Bs(F:Nat)(a:a7):Option (Int):=
 ej (α:=List (List UInt8)) (ri F a F [] 0) λ(b:List (List UInt8))=>
 cO (α:=Unit) (tj a b F 0) λ(_:Unit)=>
 some 0
def tl(a0:List (List UInt8)):Nat->(List ((List UInt8)×Bool))->Int->Option (List ((List UInt8)×Bool))
 |0,_,_=>none
 |bZ+1,c,a=>
  cond (decide (a<(a0.length:Int))) ((idx a0 a).bind λ b=>
  tl a0 bZ (la c b true) (bj (a+1))) (some c)
def yu(F:Nat)(a0:List (List UInt8)):Option (Bool):=
 ej (α:=List ((List UInt8)×Bool)) (tl a0 F [] 0) λ(a:List ((List UInt8)×Bool))=>
 some (decide ((a.length:Int)<(a0.length:Int)))
def rh(a:List Field):Nat->(List (List UInt8))->Int->Option (List (List UInt8))
 |0,_,_=>none
 |fm+1,e,b=>
  cond (decide (b<(a.length:Int))) ((idx a b).bind λ c=>
  (cc 16 e [c.Name]).bind λ d=>
  rh a fm d (bj (b+1))) (some e)
def n8(a:ao):Nat->(List (List UInt8))->Int->Option (List (List UInt8))
 |0,_,_=>none
 |ho+1,e,b=>
  cond (decide (b<(a.a3.length:Int))) ((idx a.a3 b).bind λ c=>
  (cc 16 e [c.Name]).bind λ d=>
  n8 a ho d (bj (b+1))) (some e)
def tf(F:Nat)(a:a7):Nat->Int->Option (Way (Int) (Unit))
 |0,_=>none
 |bZ+1,b=>
  cond (decide (b<(a.l.length:Int))) (c5 (α:=Unit) ((idx a.l b).bind λ g=>
  (pq F (⟨a.l,a.bF,a.cV⟩:a7) b).bind λ h=>
  ej (α:=List (List UInt8)) (rh h F [] 0) λ(c:List (List UInt8))=>
  ej (α:=List (List UInt8)) (n8 g F [] 0) λ(d:List (List UInt8))=>
  (yu F c).bind λ e=>
  cond (e) (some (.out 6)) ((yu F d).bind λ f=>
  cond (f) (some (.out 6)) (some (.go ())))) λ(_:Unit)=>
  tf F a bZ (bj (b+1))) (some (.go ()))
def Br(F:Nat)(a:a7):Option (Int):=
 cO (α:=Unit) (tf F a F 0) λ(_:Unit)=>
 some 0
def wP(b:List Kind)(c:List Kind):Nat->Int->Option (Way (Bool) (Unit))
 |0,_=>none
 |bZ+1,a=>
  cond (decide (a<(b.length:Int))) ((idx b a).bind λ d=>
  (idx c a).bind λ e=>
  cond (!decide (d=e)) (some (.out false)) (wP b c bZ (bj (a+1)))) (some (.go ()))
def Ck(F:Nat)(a:List Kind)(b:List Kind):Option (Bool):=
 cond (!decide ((a.length:Int)=(b.length:Int))) (some false) (cO (α:=Unit) (wP a b F 0) λ(_:Unit)=>
 some true)
def E5(F:Nat)(a:Method)(b8:Method):Option (Bool):=
 cond ((!a.Static)&&(!b8.Static)) ((Ck F a.cg b8.cg).bind λ b=>
 cond (b) (some (decide ((⟨a.Returns.Kind,a.Returns.ao⟩:Kind)=(⟨b8.Returns.Kind,b8.Returns.ao⟩:Kind)))) (some false)) (some false)
def n7(F:Nat)(a:Method)(c:ao):Nat->Int->Option (Way (Int) (Unit))
 |0,_=>none
 |k7+1,d=>
  cond (decide (d<(c.a3.length:Int))) ((idx c.a3 d).bind λ b=>
  cond (decide (a.Name=b.Name)) ((E5 F (⟨a.Name,a.Static,a.cg,(⟨a.Returns.Kind,a.Returns.ao⟩:Kind),a.fP,a.fO,a.Code,a.ck⟩:Method) (⟨b.Name,b.Static,b.cg,(⟨b.Returns.Kind,b.Returns.ao⟩:Kind),b.fP,b.fO,b.Code,b.ck⟩:Method)).bind λ e=>
  cond (!e) (some (.out 4)) (n7 F a c k7 (bj (d+1)))) (n7 F a c k7 (bj (d+1)))) (some (.go ()))
def td(F:Nat)(c:a7)(a:ao)(d:Int):Nat->Int->Option (Way (Int) (Unit))
 |0,_=>none
 |ho+1,b=>
  cond (decide (b<(a.a3.length:Int))) (c5 (α:=Unit) ((idx a.a3 b).bind λ e=>
  (idx c.l d).bind λ f=>
  c5 (α:=Unit) (n7 F e f F 0) λ(_:Unit)=>
  some (.go ())) λ(_:Unit)=>
  td F c a d ho (bj (b+1))) (some (.go ()))
def tc(F:Nat)(c:a7)(d:ao)(a:List Int):Nat->Int->Option (Way (Int) (Unit))
 |0,_=>none
 |fm+1,b=>
  cond (decide (b<(a.length:Int))) (c5 (α:=Unit) ((idx a b).bind λ e=>
  c5 (α:=Unit) (td F c d e F 0) λ(_:Unit)=>
  some (.go ())) λ(_:Unit)=>
  tc F c d a fm (bj (b+1))) (some (.go ()))
def ta(F:Nat)(a:a7):Nat->Int->Option (Way (Int) (Unit))
 |0,_=>none
 |bZ+1,b=>
  cond (decide (b<(a.l.length:Int))) (c5 (α:=Unit) ((idx a.l b).bind λ d=>
  (n5 F (⟨a.l,a.bF,a.cV⟩:a7) b).bind λ c=>
  (cut c 1 (c.length:Int)).bind λ e=>
  c5 (α:=Unit) (tc F a d e F 0) λ(_:Unit)=>
  some (.go ())) λ(_:Unit)=>
  ta F a bZ (bj (b+1))) (some (.go ()))
def Bq(F:Nat)(a:a7):Option (Int):=
 cO (α:=Unit) (ta F a F 0) λ(_:Unit)=>
 some 0
def NZ(s_:List Field):Option (List Field):=
 (cc 40 ([]:List Field) s_).bind λ a=>
 some a
def N2(s_:List Method):Option (List Method):=
 (cc 128 ([]:List Method) s_).bind λ a=>
 some a
def N1(s_:List Kind):Option (List Kind):=
 (cc 24 ([]:List Kind) s_).bind λ a=>
 some a
def N0(s_:List Handler):Option (List Handler):=
 (cc 40 ([]:List Handler) s_).bind λ a=>
 some a
def pr:Nat->(List Method)->Int->Int->Option (List Method)
 |0,_,_,_=>none
 |fm+1,E1,g,c=>
  cond (decide (c<g)) ((idx E1 c).bind λ h=>
  (N1 h.cg).bind λ d=>
  (N0 h.ck).bind λ e=>
  (idx E1 c).bind λ a=>
  (some (E1.set (c).toNat (⟨a.Name,a.Static,d,(⟨a.Returns.Kind,a.Returns.ao⟩:Kind),a.fP,a.fO,a.Code,a.ck⟩:Method))).bind λ i=>
  (idx i c).bind λ b=>
  (some (i.set (c).toNat (⟨b.Name,b.Static,b.cg,(⟨b.Returns.Kind,b.Returns.ao⟩:Kind),b.fP,b.fO,b.Code,e⟩:Method))).bind λ f=>
  pr fm f g (bj (c+1))) (some E1)
def n'(F:Nat)(a0:List ao):Nat->(List ao)->Int->Option (List ao)
 |0,_,_=>none
 |bZ+1,g,b=>
  cond (decide (b<(a0.length:Int))) (ej (α:=List ao) ((idx a0 b).bind λ a=>
  (NZ a.Fields).bind λ c=>
  (N2 a.a3).bind λ h=>
  ej (α:=List Method) (pr F h (h.length:Int) 0) λ(d:List Method)=>
  (cc 80 g [(⟨a.Name,a.ch,c,d⟩:ao)]).bind λ e=>
  some e) λ(f:List ao)=>
  n' F a0 bZ f (bj (b+1))) (some g)
def Bt(F:Nat)(a0:List ao):Option (List ao):=
 ej (α:=List ao) (n' F a0 F [] 0) λ(a:List ao)=>
 some a
def uf(s_:List (List UInt8))(oA:List UInt8):Nat->Int->Option (Way (Int) (Unit))
 |0,_=>none
 |bZ+1,a=>
  cond (decide (a<(s_.length:Int))) ((idx s_ a).bind λ b=>
  cond (decide (oA=b)) (some (.out a)) (uf s_ oA bZ (bj (a+1)))) (some (.go ()))
def Co(F:Nat)(s_:List (List UInt8))(oA:List UInt8):Option (Int):=
 cO (α:=Unit) (uf s_ oA F 0) λ(_:Unit)=>
 some (-1)
def th(F:Nat)(d:Int)(e:ao):Nat->(List (List UInt8))->(List Target)->Int->Option ((List (List UInt8))×(List Target))
 |0,_,_,_=>none
 |fm+1,b,c,a=>
  cond (decide (a<(e.a3.length:Int))) (ej (α:=(List (List UInt8))×(List Target)) ((idx e.a3 a).bind λ g=>
  (Co F b g.Name).bind λ f=>
  cond (decide (0<=f)) ((idx c f).bind λ l=>
  (some (c.set (f).toNat (⟨d,a⟩:Target))).bind λ h=>
  some (b,h)) ((cc 16 b [g.Name]).bind λ E2=>
  (cc 16 c [(⟨d,a⟩:Target)]).bind λ i=>
  some (E2,i))) λ((j,k):(List (List UInt8))×(List Target))=>
  th F d e fm j k (bj (a+1))) (some (b,c))
def tg(F:Nat)(c:a7):List Int->(List (List UInt8))->(List Target)->Option ((List (List UInt8))×(List Target))
 |[],a,b=>some (a,b)
 |eo::d,a,b=>
  ej (α:=(List (List UInt8))×(List Target)) ((idx c.l eo).bind λ e=>
  ej (α:=(List (List UInt8))×(List Target)) (th F eo e F a b 0) λ((f,g):(List (List UInt8))×(List Target))=>
  some (f,g)) λ((h,i):(List (List UInt8))×(List Target))=>
  tg F c d h i
def wm(F:Nat)(a:a7)(c:Int):Option ((List (List UInt8))×(List Target)):=
 (n5 F (⟨a.l,a.bF,a.cV⟩:a7) c).bind λ b=>
 (Cf b).bind λ f=>
 ej (α:=(List (List UInt8))×(List Target)) (tg F a b.reverse [] []) λ((d,e):(List (List UInt8))×(List Target))=>
 some (d,e)
def k_(F:Nat)(b:List ao)(c:Int×a7)(d:Int×a7):Nat->(List (List Target))->(List (List (List UInt8)))->(List (List Field))->Int->Option (Way (bE×Int) ((List (List Target))×(List (List (List UInt8)))×(List (List Field))))
 |0,_,_,_,_=>none
 |bZ+1,j,k,l,a=>
  cond (decide (a<(b.length:Int))) ((wm F (⟨b,c.2.bF,d.2.cV⟩:a7) a).bind λ e=>
  (pq F (⟨b,c.2.bF,d.2.cV⟩:a7) a).bind λ f=>
  (cc 24 l [f]).bind λ m=>
  (cc 24 k [e.1]).bind λ g=>
  (cc 24 j [e.2]).bind λ h=>
  (idx m a).bind λ i=>
  cond ((decide (12<(i.length:Int)))||(decide (16<(e.1.length:Int)))) (some (.out ((⟨[],[],[],[],[]⟩:bE),2))) (k_ F b c d bZ h g m (bj (a+1)))) (some (.go (j,k,l)))
def wl(F:Nat)(a0:List ao):Option (bE×Int):=
 (Ba F a0).bind λ d=>
 cond (!decide (d=0)) (some ((⟨[],[],[],[],[]⟩:bE),d)) ((Bt F a0).bind λ a=>
 (yr F (⟨a,[],[]⟩:a7)).bind λ b=>
 cond (!decide (b.1=0)) (some ((⟨[],[],[],[],[]⟩:bE),b.1)) ((E6 F (⟨a,b.2.bF,[]⟩:a7)).bind λ c=>
 cond (!decide (c.1=0)) (some ((⟨[],[],[],[],[]⟩:bE),c.1)) ((E7 F (⟨a,b.2.bF,c.2.cV⟩:a7)).bind λ e=>
 cond (!decide (e=0)) (some ((⟨[],[],[],[],[]⟩:bE),e)) ((Bs F (⟨a,b.2.bF,c.2.cV⟩:a7)).bind λ f=>
 cond (!decide (f=0)) (some ((⟨[],[],[],[],[]⟩:bE),f)) ((Br F (⟨a,b.2.bF,c.2.cV⟩:a7)).bind λ g=>
 cond (!decide (g=0)) (some ((⟨[],[],[],[],[]⟩:bE),g)) ((Bq F (⟨a,b.2.bF,c.2.cV⟩:a7)).bind λ h=>
 cond (!decide (h=0)) (some ((⟨[],[],[],[],[]⟩:bE),h)) (cO (α:=(List (List Target))×(List (List (List UInt8)))×(List (List Field))) (k_ F a b c F [] [] [] 0) λ((i,j,k):(List (List Target))×(List (List (List UInt8)))×(List (List Field)))=>
 some ((⟨a,c.2.cV,k,j,i⟩:bE),0))))))))
def ub(b:List Int)(c:List Int):Nat->Int->Option (Way (Bool) (Unit))
 |0,_=>none
 |bZ+1,a=>
  cond (decide (a<(b.length:Int))) ((idx b a).bind λ d=>
  (idx c a).bind λ e=>
  cond (!decide (d=e)) (some (.out false)) (ub b c bZ (bj (a+1)))) (some (.go ()))
def Cm(F:Nat)(a:List Int)(b:List Int):Option (Bool):=
 cond (!decide ((a.length:Int)=(b.length:Int))) (some false) (cO (α:=Unit) (ub a b F 0) λ(_:Unit)=>
 some true)
def t_(b:List Field)(c:List Field):Nat->Int->Option (Way (Bool) (Unit))
 |0,_=>none
 |bZ+1,a=>
  cond (decide (a<(b.length:Int))) ((idx b a).bind λ d=>
  (idx c a).bind λ e=>
  cond (!decide (d=e)) (some (.out false)) (t_ b c bZ (bj (a+1)))) (some (.go ()))
def Cj(F:Nat)(a:List Field)(b:List Field):Option (Bool):=
 cond (!decide ((a.length:Int)=(b.length:Int))) (some false) (cO (α:=Unit) (t_ a b F 0) λ(_:Unit)=>
 some true)
def tX(F:Nat)(b:List (List Field))(c:List (List Field)):Nat->Int->Option (Way (Bool) (Unit))
 |0,_=>none
 |bZ+1,a=>
  cond (decide (a<(b.length:Int))) ((idx b a).bind λ d=>
  (idx c a).bind λ e=>
  (Cj F d e).bind λ f=>
  cond (!f) (some (.out false)) (tX F b c bZ (bj (a+1)))) (some (.go ()))
def Cg(F:Nat)(a:List (List Field))(b:List (List Field)):Option (Bool):=
 cond (!decide ((a.length:Int)=(b.length:Int))) (some false) (cO (α:=Unit) (tX F a b F 0) λ(_:Unit)=>
 some true)
def uc(b:List (List UInt8))(c:List (List UInt8)):Nat->Int->Option (Way (Bool) (Unit))
 |0,_=>none
 |bZ+1,a=>
  cond (decide (a<(b.length:Int))) ((idx b a).bind λ d=>
  (idx c a).bind λ e=>
  cond (!decide (d=e)) (some (.out false)) (uc b c bZ (bj (a+1)))) (some (.go ()))
def Cn(F:Nat)(a:List (List UInt8))(b:List (List UInt8)):Option (Bool):=
 cond (!decide ((a.length:Int)=(b.length:Int))) (some false) (cO (α:=Unit) (uc a b F 0) λ(_:Unit)=>
 some true)
def tZ(F:Nat)(b:List (List (List UInt8)))(c:List (List (List UInt8))):Nat->Int->Option (Way (Bool) (Unit))
 |0,_=>none
 |bZ+1,a=>
  cond (decide (a<(b.length:Int))) ((idx b a).bind λ d=>
  (idx c a).bind λ e=>
  (Cn F d e).bind λ f=>
  cond (!f) (some (.out false)) (tZ F b c bZ (bj (a+1)))) (some (.go ()))
def Ci(F:Nat)(a:List (List (List UInt8)))(b:List (List (List UInt8))):Option (Bool):=
 cond (!decide ((a.length:Int)=(b.length:Int))) (some false) (cO (α:=Unit) (tZ F a b F 0) λ(_:Unit)=>
 some true)
def ua(b:List Target)(c:List Target):Nat->Int->Option (Way (Bool) (Unit))
 |0,_=>none
 |bZ+1,a=>
  cond (decide (a<(b.length:Int))) ((idx b a).bind λ d=>
  (idx c a).bind λ e=>
  cond (!decide (d=e)) (some (.out false)) (ua b c bZ (bj (a+1)))) (some (.go ()))
def Cl(F:Nat)(a:List Target)(b:List Target):Option (Bool):=
 cond (!decide ((a.length:Int)=(b.length:Int))) (some false) (cO (α:=Unit) (ua a b F 0) λ(_:Unit)=>
 some true)
def tY(F:Nat)(b:List (List Target))(c:List (List Target)):Nat->Int->Option (Way (Bool) (Unit))
 |0,_=>none
 |bZ+1,a=>
  cond (decide (a<(b.length:Int))) ((idx b a).bind λ d=>
  (idx c a).bind λ e=>
  (Cl F d e).bind λ f=>
  cond (!f) (some (.out false)) (tY F b c bZ (bj (a+1)))) (some (.go ()))
def Ch(F:Nat)(a:List (List Target))(b:List (List Target)):Option (Bool):=
 cond (!decide ((a.length:Int)=(b.length:Int))) (some false) (cO (α:=Unit) (tY F a b F 0) λ(_:Unit)=>
 some true)
def yt(F:Nat)(a:bE)(b8:bE):Option (Bool):=
 (Cm F a.cu b8.cu).bind λ e=>
 cond (e) ((Cg F a.Fields b8.Fields).bind λ b=>
 cond (b) ((Ci F a.Names b8.Names).bind λ c=>
 cond (c) ((Ch F a.cy b8.cy).bind λ d=>
 some d) (some false)) (some false)) (some false)
def wj(F:Nat)(a:bE):Option (Int):=
 (wl F a.dF).bind λ b=>
 cond (!decide (b.2=0)) (some 4) ((yt F (⟨a.dF,a.cu,a.Fields,a.Names,a.cy⟩:bE) (⟨b.1.dF,b.1.cu,b.1.Fields,b.1.Names,b.1.cy⟩:bE)).bind λ alC=>
 cond (!alC) (some 4) (some 0))
def LL(c_:ao)(a:List UInt8):Option (Bool):=some (decide (c_.Name=a))
def ud(s_:List ao)(d:List UInt8):Nat->Int->Option (Way (Int) (Unit))
 |0,_=>none
 |bZ+1,a=>
  cond (decide (a<(s_.length:Int))) ((idx s_ a).bind λ b=>
  (LL b d).bind λ c=>
  cond (c) (some (.out a)) (ud s_ d bZ (bj (a+1)))) (some (.go ()))
def Gu(F:Nat)(s_:List ao)(a:List UInt8):Option (Int):=
 cO (α:=Unit) (ud s_ a F 0) λ(_:Unit)=>
 some (-1)
def s6(F:Nat)(b:bE)(c:List UInt8):Option (Int×Bool):=
 (Gu F b.dF c).bind λ a=>
 some (a,decide (0<=a))
def s8(b8:Int)(b:bE):Nat->Int->Option (Way (Bool) (Unit))
 |0,_=>none
 |bZ+1,a=>
  cond (decide (0<=a)) (cond (decide (a=b8)) (some (.out true)) ((idx b.cu a).bind λ c=>
  s8 b8 b bZ c)) (some (.go ()))
def s7(F:Nat)(a:bE)(b:Int)(b8:Int):Option (Bool):=
 cO (α:=Unit) (s8 b8 a F b) λ(_:Unit)=>
 some false
def wk(F:Nat)(b8:Int)(a:bE):Nat->Int->Option (Int)
 |0,_=>none
 |bZ+1,b=>
  (s7 F (⟨a.dF,a.cu,a.Fields,a.Names,a.cy⟩:bE) b8 b).bind λ c=>
  cond (!c) ((idx a.cu b).bind λ d=>
  wk F b8 a bZ d) (some b)
def yq(F:Nat)(b:bE)(c:Int)(b8:Int):Option (Int):=
 ej (α:=Int) (wk F b8 b F c) λ(a:Int)=>
 some a
def PB:Option (List ao):=some [(⟨[79,98,106,101,99,116],[],[],[(⟨[109,97,105,110],true,[],(⟨0,[]⟩:Kind),2,0,[1,0,7,31,27],[]⟩:Method)]⟩:ao),(⟨[69,114,114,111,114],[79,98,106,101,99,116],[(⟨[99,111,100,101],(⟨1,[]⟩:Kind)⟩:Field)],[]⟩:ao)]
def xr(F:Nat)(a:bE):Option (Int):=
 (zI F a.dF).bind λ b=>
 cond (!decide (b.2=0)) (some 4) ((xv F (⟨a.dF,a.cu,a.Fields,a.Names,a.cy⟩:bE) (⟨b.1.dF,b.1.cu,b.1.Fields,b.1.Names,b.1.cy⟩:bE)).bind λ c=>
 cond (!c) (some 4) (some 0))
def uX(b8:Int)(a:List Int):Nat->Int->Option (Way (Bool) (Unit))
 |0,_=>none
 |bZ+1,b=>
  cond (decide (b<(a.length:Int))) ((idx a b).bind λ c=>
  cond (decide (c=b8)) (some (.out true)) (uX b8 a bZ (bj (b+1)))) (some (.go ()))
def sa(F:Nat)(a:bE)(b:Int)(b8:Int):Option (Bool):=
 (my F a.dF b).bind λ c=>
 cO (α:=Unit) (uX b8 c F 0) λ(_:Unit)=>
 some false
def lD(F:Nat)(b8:Int)(a:bE)(b:List Int):Nat->Int->Int->Option (Int)
 |0,_,_=>none
 |bZ+1,g,Fo=>
  cond (decide (Fo<(b.length:Int))) (ej (α:=Int) ((idx b Fo).bind λ c=>
  (sa F (⟨a.dF,a.cu,a.Fields,a.Names,a.cy⟩:bE) b8 c).bind λ d=>
  cond (d) ((idx b Fo).bind λ e=>
  some e) (some g)) λ(f:Int)=>
  lD F b8 a b bZ f (bj (Fo+1))) (some g)
def xn(F:Nat)(c:bE)(e:Int)(b8:Int):Option (Int):=
 (my F c.dF e).bind λ d=>
 (idx d 0).bind λ a=>
 ej (α:=Int) (lD F b8 c d F a 0) λ(b:Int)=>
 some b
end ad
namespace Go.Proofs.YtifhjkbiiekamaaGreatDoor
open Go Go.RowKit aw ad a9
@[reducible] def Ug(F:Nat):hg bc:=⟨[.p (.B 0),lQ],[.c 115 [.l 39,.M 1,.l 3],.m 9 3],[.p (.R 2)],[.c 115 [.l 39,.M 1,.l 3],.m 9 3,.r 121 false],List ad.Field,
  λ d=>pq F ⟨d.2.1.1,d.2.2.1,d.2.1.2.2.1⟩ d.1.2.1,λ d r=>(((),()),((d.2.1.1,(),d.2.1.2.2.1,()),d.2.2.1,r,()))⟩
@[reducible] def Uh(F:Nat):hg bc:=⟨[.p (.B 0),lQ],[.c 115 [.l 39,.M 1,.l 3],.m 9 3],[.p (.R 2),.p (.R 3)],[.c 115 [.l 39,.M 1,.l 3],.m 9 3,.r 9 false,.r 102 false],List (List UInt8)×List ad.Target,
  λ d=>wm F ⟨d.2.1.1,d.2.2.1,d.2.1.2.2.1⟩ d.1.2.1,λ d r=>(((),(),()),((d.2.1.1,(),d.2.1.2.2.1,()),d.2.2.1,r.1,r.2,()))⟩
def Di(F:Nat):dM aU:=⟨(61,(Ug F).run aU)::(60,(Uh F).run aU)::Yi.ce,[]⟩
open Go Go.RowKit aw
set_option maxHeartbeats 4000000
set_option maxRecDepth 20000
theorem Qg{W:World}{X:List Nat}{F:Nat}{c:ad.a7}{u:Int}{r:List Int}{l:Nat}{m:iC}{fF:Nat}{n:Nat}{g:iC}{j:Nat}{au:List Nat}(d:bd W au X W [] [bh.hB l [.q m fF c.l,.map (some n),.q g j c.cV],cd ad.iw m fF c.l,bh.map kq (Value.int .i64) n c.bF,cd (eT .i64) g j c.cV])(h:ad.n5 F c u=some r) :
 Calls Tryz.prog 99 [.cM l,.i u].toArray W (λ e w'=>∃H:Option Addr,∃I:Nat,∃J:List Value,e= .returned (.q H I r)/\bd W au X w' [aX.row 3 1 (.q H I r) r J] [bh.rows (eT .i64) J r]):=by
 refine enter Tryz.func99 rfl Tryz.ntmps99 rfl λ a b=>?_;rw[ad.n5]at h;refine vq [] [] b λ a b=>vq [] [(5,.slice none 0 0)] b λ a b=>wp_seq_k λ K Q=>?_;have d:=d.FC (α:=Int) 3 1;have d:=d.more (y:=bh.rows (eT .i64) [] []) rfl;obtain⟨v,h,x⟩:=ad.fR h
 refine Qd (λ a w=>∃(q:iC)(s:Nat)(k:zz)(t:oH),Fr ⟨20,[]⟩ [(5,.q q s k)] a/\bd W au X w [aX.row 3 1 (.q q s k) k t] [bh.rows (eT .i64) t k,bh.hB l [.q m fF c.l,.map (some n),.q g j c.cV],cd ad.iw m fF c.l,bh.map kq (Value.int .i64) n c.bF,cd (eT .i64) g j c.cV]/\v=k) (λ K R=>?_) ?_
 ·clear x;refine Qh (λ(L:Nat) a w=>∃(o:iC)(p:Nat)(i:zz)(C2:oH)(f:Int),Fr ⟨20,[]⟩ [(0,.cM l),(1,.i f),(5,.q o p i)] a/\bd W au X w [aX.row 3 1 (.q o p i) i C2] [bh.rows (eT .i64) C2 i,bh.hB l [.q m fF c.l,.map (some n),.q g j c.cV],cd ad.iw m fF c.l,bh.map kq (Value.int .i64) n c.bF,cd (eT .i64) g j c.cV]/\ad.n6 c L i f=some v) F ⟨none,0,[],[],u,b.cut,d,h⟩ ?_ ?_;rintro a w ⟨o,p,i,C2,f,b,d,h⟩;exact absurd h (by simp[ad.n6]);rintro L a w ⟨o,p,i,C2,f,b,d,h⟩ K S;rw[ad.n6]at h;refine wp_seq_k λ K U=>vq [] [(7,.bool (decide (0<=f)))] b λ a b=>HY (b.g rfl) h (λ z h=>?_) (λ z h=>?_);refine wp_skip<|U _ _<|wp_seq_k λ K V=>wp_block<|mE<|j_ 2 [] [(15,.q o p i),(16,.i f)] b λ a b=>akd (cs:=[.i f]) wn (zl (vs:=[(0,.i f)]) Tryz.underlying23 Tryz.sizeOf3 Tryz.zeroValue3 rfl rfl rfl ⟨⟨(b.g rfl),rfl⟩,trivial⟩ (by kernel_rfl)) b d rfl rfl λ a Y w _ b d=>?_;obtain⟨M,A,h⟩:=ad.fR h;refine Gp (T:=(eT .i64)) (ml:=[f]) 1 0 0 d rfl rfl rfl Tryz.underlying23 ahG rfl rfl A rfl rfl ⟨_,_,rfl,rfl,rfl⟩ wn rfl (b.g rfl) (b.g rfl) b rfl rfl λ a N O B w b d=>?_;refine j_ 1 [] [(5,.q N O M)] b λ a b=>wpList_nil (V _ _ ?_);refine mE<|oX 5 [0,2] [(11,.q g j c.cV),(12,.i f)] [l,2] (fW (d.d 2 rfl).2.2 gz) b λ a b=>?_;obtain⟨P,C,h⟩:=ad.fR h;obtain⟨D,E,_,rfl,G⟩:=wO _ (d.d 5 rfl) C;refine nn wn (nu Tryz.underlying23 Tryz.sizeOf3 rfl (b.g rfl) (b.g rfl) D E) b rfl rfl λ a b=>oX 2 [0,0] [(1,.i P)] [dh g,fA g+(f).toNat*1] (fW G gz) b λ a b=>wpList_nil ?_;exact S _ _ ⟨N,O,M,B,P,b.cut,d.eR [0,2,3,4,5],h⟩;refine wp_exit<|rU (rU (C1 ?_));exact R _ _ ⟨o,p,i,C2,b.cut,d,(os h)⟩
 rintro a w ⟨q,s,k,t,b,d,Z⟩;subst v;have h:=x;clear x;refine Q _ _<|Gv [] [(4,.q q s k)] b λ a b=>wp_ret ?_;obtain rfl:=cr h;refine F8 Tryz.results99 b rfl ?_;exact⟨q,s,t,rfl,d.pK [0] [0]⟩
theorem Qi{W:World}{X:List Nat}{s_:List Int}{r:Unit}{c:iC}{d:Nat}{au:List Nat}(f:bd W au X W [] [cd (eT .i64) c d s_])(h:ad.Cf s_=some r) :
 Calls Tryz.prog 101 [.q c d s_].toArray W (λ e w'=>∃g:Nat,e= .returned (.func (.func 123) #[] #[.cM g])/\bd W au X w' [aX.dl g 23 [.q c d s_]] []):=by
 refine enter Tryz.func101 rfl Tryz.ntmps101 rfl λ a b=>?_;clear h;refine wp_seq_k λ K j=>mE<|tH (cs:=[.q c d s_]) wn (Hg rfl rfl (b.g rfl)) b f rfl rfl λ a i w _ b f=>j_ 1 [] [] b λ a b=>wpList_nil (j _ _ ?_);refine Gv [] [(2,.func (.func 123) #[] #[.cM i])] b λ a b=>wp_ret<|F8 Tryz.results101 b rfl ?_;exact⟨i,rfl,f.pK [0] []⟩
theorem Qf:Py Tryz.prog 123:=by
 intro o f A c eK L w0 ap hy n;refine ac9 (vs:=[.func (.yield L) #[] #[],.cM eK]) Tryz.func123 rfl Tryz.ntmps123 rfl (by rintro w ⟨⟨v,h⟩,_⟩;cases h) ?_;intro a b;obtain⟨W,au,X,E,g⟩:=ap _ _ n;have i:f.length<=maxLen:=by
  obtain⟨I,J,M,al,aN,_⟩:=(g.d 1 rfl:(bX (eT .i64)).rd _ _ _ _)
  omega
 refine kB ?_;intro K p;refine mn (by kernel_rfl) ?_;refine hs 4 [0,1,3] [0,0] (fr':=[(0,.func (.yield L) #[] #[]),(1,.cM eK),(3,.i (ad.bj ((f.length:Int)-1)))]) (L:=[eK,0]) nS (fW (g.d 0 rfl).2.2 gz) b (by kernel_rfl) ?_;intro a b;rw[W6 i]at b;refine wpList_nil ?_;refine p _ _ ?_;refine Ox ?_;refine Xj (λ k a w=>∃(rem:zz),k=rem.length+1/\(∃pre,f=rem.reverse++pre)/\Fr ⟨19,[]⟩ [(0,.func (.yield L) #[] #[]),(1,.cM eK),(3,.i ((rem.length:Int)-1))] a/\o rem w) (f.length+1) ⟨f.reverse,by simp,⟨[],by simp⟩,by rw[jW];exact b,n⟩ (by rintro a w ⟨rem,h,_⟩;omega) ?_;rintro k a w ⟨rem,l,⟨pre,j⟩,b,d⟩ K q;refine kB ?_;intro s qv;refine kB ?_;intro t u;refine mn (by kernel_rfl) ?_;refine hs 2 [0,1,3,8] [] (fr':=[(0,.func (.yield L) #[] #[]),(1,.cM eK),(3,.i ((rem.length:Int)-1)),(8,.bool (decide (0<=(rem.length:Int)-1)))]) (L:=[]) nS gz b (by kernel_rfl) ?_;intro a b;refine wpList_nil ?_;refine u _ _ ?_;refine Oz (b.g rfl) (λ ag=>?_) (λ ag=>?_)
 ·have ag:=of_decide_eq_true ag;match rem,ag,j,b,d,l with
  |x::rem,_,j,b,d,l=>
  have y:=ahw j;have e:((x::rem).length:Int)-1=(rem.length:Int):=by simp
  rw[e]at b;refine GM ?_;refine qv _ _ ?_;refine kB ?_;intro z B;refine Ox ?_;refine kB ?_;intro C D;refine an7 λ F=>?_;refine ai6 6 (by kernel_rfl) ?_;obtain⟨W,au,X,E,g⟩:=ap _ _ d;refine hs 4 [0,1,3,11,12,13,14] [0,0] (fr':=[(0,.func (.yield L) #[] #[]),(1,.cM eK),(3,.i (rem.length:Int)),(11,.func (.yield L) #[] #[]),(12,.i (rem.length:Int)),(13,.q A c f),(14,.i (rem.length:Int))]) (L:=[eK,0]) nS (fW (g.d 0 rfl).2.2 gz) b (by kernel_rfl) ?_;intro a b;obtain⟨G,hi,_,rfl,hc⟩:=wO _ (g.d 1 rfl) y;refine nn wn (nu Tryz.underlying23 Tryz.sizeOf3 rfl (b.g rfl) (b.g rfl) G hi) b rfl rfl ?_;intro a b;refine hs 1 [0,1,3,11,12,16] [0,0] (fr':=[(0,.func (.yield L) #[] #[]),(1,.cM eK),(3,.i (rem.length:Int)),(11,.func (.yield L) #[] #[]),(12,.i (rem.length:Int)),(16,.i x)]) (L:=[dh A,fA A+(rem.length:Int).toNat*1]) nS (fW hc gz) b (by kernel_rfl) ?_;intro a b;refine wpList_nil ?_;refine aqG (vs:=[.i (rem.length:Int),.i x]) wn rfl (b.g rfl) ⟨b.g rfl,b.g rfl,trivial⟩ (hy x rem _ d) b rfl rfl ?_;rintro _ w ⟨rfl,d⟩;refine⟨_,rfl,λ a b=>?_⟩;refine E8 F (by kernel_rfl) ?_;refine hs 1 [0,1,3,18] [] (fr':=[(0,.func (.yield L) #[] #[]),(1,.cM eK),(3,.i (rem.length:Int)),(18,.bool false)]) (L:=[]) nS gz b (by kernel_rfl) ?_;intro a b;refine wpList_nil ?_;refine D _ _ ?_;refine an6 (b.g rfl) rfl ?_;refine GM ?_;refine B _ _ ?_;refine mn (by kernel_rfl) ?_;refine hs 3 [0,1,3] [] (fr':=[(0,.func (.yield L) #[] #[]),(1,.cM eK),(3,.i (ad.bj ((rem.length:Int)-1)))]) (L:=[]) nS gz b (by kernel_rfl) ?_;intro a b;have m:rem.length<=maxLen:=by have:=congrArg List.length j;simp at this;omega
  rw[W6 m]at b;refine wpList_nil ?_;exact q _ _ ⟨rem,by simpa using l,⟨x::pre,by rw[j];simp⟩,b,d⟩
 ·have ag:=of_decide_eq_false ag
  have H:rem=[]:=by
   cases rem with
   |nil=>rfl
   |cons x r=>exact absurd ag (by simp)
  subst H;refine OA ?_;refine rU ?_;refine rU ?_;refine C1 ?_;refine aa4 ?_;refine al6 Tryz.results123 b ?_;exact⟨⟨_,rfl⟩,d⟩
theorem abv{W:World}{X:List Nat}{F:Nat}{g:ad.a7}{B:Int}{r:List ad.Field}{p:Nat}{q:iC}{fF:Nat}{C:Nat}{D:iC}{E:Nat}{au:List Nat}(f:bd W au X W [] [bh.hB p [.q q fF g.l,.map (some C),.q D E g.cV],cd ad.iw q fF g.l,bh.map kq (Value.int .i64) C g.bF,cd (eT .i64) D E g.cV])(h:ad.pq F g B=some r) :
 Calls Tryz.prog 61 [.cM p,.i B].toArray W (λ e w'=>∃Po:Option Addr,∃Qb:Nat,∃XW:List Value,e= .returned (.q Po Qb r)/\bd W au X w' [aX.row 121 3 (.q Po Qb r) r XW] [bh.rows ad.hO XW r]):=by
 refine Rr Tryz.func61 rfl Tryz.ntmps61 rfl λ a d=>?_;rw[ad.pq]at h;refine wp_seq_k λ K qu=>mE<|tH (cs:=[.cM p]) wn (Hg rfl rfl (d.g rfl)) d f rfl rfl λ a x w _ d f=>j_ 1 [] [] d λ a d=>wpList_nil (qu _ _ ?_);refine wp_seq_k λ K qv=>mE<|tH (cs:=[.slice none 0 0]) wn (rV Tryz.zeroValue36 rfl rfl) d f rfl rfl λ a t w _ d f=>wpList_nil<|qv _ _<|wp_seq_k λ K qw=>wp_seq_k λ K qx=>mE ?_
 refine oX 2 [0,0] [(8,.cM p),(9,.i B)] [x,0] (fW (iX (f.e 1 rfl)) gz) d λ a d=>?_;obtain⟨G,J,h⟩:=ad.fR h;have hc:=f;refine Cc (vs:=[.cM p,.i B]) wn rfl Tryz.call99 ⟨(d.g rfl),(d.g rfl),trivial⟩ (Qg ((hc.into 0).pick ⟨⟨0,rfl⟩,⟨1,rfl⟩,⟨2,rfl⟩,⟨3,rfl⟩,trivial⟩) J) d rfl rfl ?_;rintro _ w ⟨H,I,arU,rfl,u⟩;refine⟨_,rfl,λ a d=>?_⟩;have f:=hc.back 0 u;clear u hc;obtain⟨alf,M,h⟩:=ad.fR h;have hc:=f;have aq:=hc.freeze 0 0 rfl rfl
 refine Cc (vs:=[.q H I G]) wn rfl Tryz.call101 ⟨(d.g rfl),trivial⟩ (Qi ((aq.into 0).pick ⟨⟨0,rfl⟩,trivial⟩) M) d rfl rfl ?_;rintro _ w ⟨Sx,rfl,u⟩;refine⟨_,rfl,λ a d=>?_⟩;have l:a1 [] _ w:=u.bO;have f:=hc.fx 0 (by exact trivial) u;clear u hc aq;clear l;refine wpList_nil ?_;have d:=d.cut (l':=[(2,.cM x),(5,.cM t),(11,.func (.func 123) #[] #[.cM Sx])]);refine qx _ _<|wp_block ?_;have f:=f.freeze 1 0 rfl rfl;have f:=f.Ss 0 rfl;have f:=f.FC (α:=ad.Field) 121 3
 have f:=f.more (y:=bh.rows ad.hO [] []) rfl;obtain⟨N,Ky,h⟩:=ad.fR h
 refine Qc (c:=I) (A:=H) (β:=(Option Addr)×(Nat)×(List ad.Field)×(List Value)) (l1:=λ _ v=>[(2,.cM x),(5,.cM t),(7,.i v)]) (λ((n,o,j,s):(Option Addr)×(Nat)×(List ad.Field)×(List Value))=>[aX.row 121 3 (.q n o j) j s,aX.dl t 36 [.q n o j],aX.dl x 111 [.cM p]]) (λ((n,o,j,s):(Option Addr)×(Nat)×(List ad.Field)×(List Value))=>[bh.rows ad.hO s j,bh.hB Sx [.q H I G],cd (eT .i64) H I G,bh.hB p [.q q fF g.l,.map (some C),.q D E g.cV],cd ad.iw q fF g.l,bh.map kq (Value.int .i64) C g.bF,cd (eT .i64) D E g.cV]) (λ(Gd:zz)((n,o,j,s):(Option Addr)×(Nat)×(List ad.Field)×(List Value))=>ad.s9 g Gd j=some N) G (none,0,[],[]) 1 2 Qf Tryz.call123 d rfl rfl rfl (f.eR [0,1,2,4,5,6,7]) Ky (λ b=>by obtain⟨_,_,_,_⟩:=b;rfl) (λ b=>by obtain⟨_,_,_,_⟩:=b;rfl) ?_ ?_ ?_
 ·clear h Ky f d;intro L O v w a K d P;refine mn (by kernel_rfl)<|j_ 1 [] [(7,.i v)] d λ a d=>wpList_nil ?_;exact P _ d.cut
 ·clear h Ky f d;intro L dc hq bp cA b O v Gd w a K h d f P;obtain⟨n,o,j,s⟩:=b;dsimp only at h f;rw[ad.s9]at h;refine Ox<|Xi (m:=11) 9 (a1 []) (by kernel_rfl) rfl (by kernel_rfl) λ w l=>?_;have f:=f.ez l;clear l;have i:=f;have k:=a1.refl [] w;refine dD [0,1,2,3,4,5] 6 [0,0,1,0,2,0] [(14,.q n o j),(18,.q q fF g.l),(19,.i v)] [p,0,x,0,t,0] (λ bT l=>(fW (xT l (iX (i.e 3 rfl))) (fW (xT l (iX (i.e 4 rfl))) (fW (xT l (i.d 3 rfl).2.2) gz)))) d k λ a d=>?_;obtain⟨z,Q,h⟩:=ad.fR h;obtain⟨R,S,_,⟨U,V,Pj,P',rfl,Ti,Tj⟩,Y⟩:=wO _ (i.d 4 rfl) Q;have i:=i.more (y:=cd ad.hO U V z.Fields) Ti;have f:=f.more (y:=cd ad.hO U V z.Fields) Ti;have i:=i.more (y:=cd ad.np Pj P' z.a3) Tj;have f:=f.more (y:=cd ad.np Pj P' z.a3) Tj;refine aaU 6 rfl (by kernel_rfl) wn (λ bT=>nu Tryz.underlying22 Tryz.sizeOf39 rfl (d.g rfl) (d.g rfl) R S) k d rfl rfl λ a d=>?_;refine dD [7,8] 2 [0,2] [(22,.q U V z.Fields)] [dh q,fA q+(v).toNat*4+2] (λ bT l=>(fW (xT l Y) gz)) d k λ a d=>j7 9 rfl (by kernel_rfl) (λ _=>k) ?_;obtain⟨E3,Z,h⟩:=ad.fR h;refine am_ (T:=ad.hO) 2 2 1 f rfl rfl rfl Tryz.underlying36 ahF rfl rfl Z rfl wn rfl (d.g rfl) (d.g rfl) d rfl rfl λ a Pn Qa ap3 w d f=>ii ?_;clear i k;have i:=f;have k:=a1.refl [] w;refine eC.next 10 (a1 [] w) (by kernel_rfl)<|j7 10 rfl (by kernel_rfl) (λ _=>k) ?_;refine rI (vs:=[.q Pn Qa E3]) 3 f rfl wn rfl Tryz.sizeOf36 rfl rfl rfl rfl (d.g rfl) (d.g rfl) rfl λ w f=>ii ?_;clear i k;have i:=f;have k:=a1.refl [] w;refine eC.next 11 (a1 [] w) (by kernel_rfl)<|Dx (by kernel_rfl) ?_ (λ _=>k);clear i k;have d:=d.cut (l':=[]);exact P (Pn,Qa,E3,ap3) _ _ h (f.eR [0,4,5,6,7,8,9])
 clear f d;intro aq' b a w Kz d f;obtain⟨n,o,j,s⟩:=b;dsimp only at Kz f;rw[ad.s9]at Kz;obtain rfl:=cr Kz;have d:=d.cut (l':=[(5,.cM t)]);refine qw _ _<|wp_seq_k λ K qy=>rg [0,0] [(4,.q n o j)] [t,0] (fW (iX (f.e 2 rfl)) gz) d λ a d=>qy _ _<|wp_ret ?_;obtain rfl:=cr h;refine ajp 0 Tryz.results61 d f rfl rfl λ w f=>?_;exact⟨n,o,s,rfl,f.pK [1] [0]⟩
set_option maxHeartbeats 4000000
set_option maxRecDepth 20000
theorem aby{W:World}{X:List Nat}{F:Nat}{s_:List (List UInt8)}{oA:List UInt8}{r:Int}{f:iC}{g:Nat}{au:List Nat}(d:bd W au X W [] [cd hN f g s_])(h:ad.Co F s_ oA=some r) :
 Calls Tryz.prog 102 [.q f g s_,bW oA].toArray W (λ e w'=>e= .returned (.i r)/\bd W au X w' [] []):=by
 refine enter Tryz.func102 rfl Tryz.ntmps102 rfl λ a b=>?_;rw[ad.Co]at h;refine vq [] [] b λ a b=>wp_seq_k λ K qv=>vq [] [(7,.i (s_.length:Int)),(8,.i 0)] b λ a b=>?_;obtain⟨i,h,j⟩:=ad.ana h;refine Qd (λ a w=>Fr ⟨19,[]⟩ [] a/\bd W au X w [] [cd hN f g s_]/\i=(.go ())) (λ K s=>?_) ?_
 ·refine Qh (λ(q:Nat) a w=>∃(c:Int),Fr ⟨19,[]⟩ [(0,.q f g s_),(1,bW oA),(7,.i (s_.length:Int)),(8,.i c)] a/\bd W au X w [] [cd hN f g s_]/\ad.uf s_ oA q c=some i) F ⟨0,b.cut,d,h⟩ ?_ ?_;rintro a w ⟨c,b,d,h⟩;exact absurd h (by simp[ad.uf]);rintro q a w ⟨c,b,d,h⟩ K t;rw[ad.uf]at h;refine vq [] [(9,.bool (decide (c<(s_.length:Int))))] b λ a b=>wp_seq_k λ K u=>HY (b.g rfl) h (λ k h=>?_) (λ k h=>?_);refine wp_skip<|u _ _<|wp_seq_k λ K v=>wp_block<|vq [] [(5,.i c)] b λ a b=>wp_seq_k λ K x=>mE<|j_ 3 [] [(11,bW oA),(12,.q f g s_),(13,.i c)] b λ a b=>?_;obtain⟨y,l,h⟩:=ad.fR h;obtain⟨m,n,_,rfl,o⟩:=wO _ (d.d 0 rfl) l;refine nn wn (nu Tryz.underlying95 Tryz.sizeOf9 rfl (b.g rfl) (b.g rfl) m n) b rfl rfl λ a b=>oX 2 [0,0] [(16,.bool (decide (oA=y)))] [dh f,fA f+(c).toNat*1] (fW o gz) b λ a b=>wpList_nil (x _ _ ?_);refine HY (b.g rfl) h (λ p h=>?_) (λ p h=>?_);refine Gv [] [(4,.i c)] b λ a b=>wp_ret ?_;obtain rfl:=cr h;obtain rfl:=cr j;refine XU (G6 (G6 (XU (G6 (G6 ?_)))));refine F8 Tryz.results102 b rfl ?_;exact⟨rfl,d.pK [] []⟩;refine wp_skip<|v _ _<|ab_ [] [(8,.i (ad.bj (c+1)))] b λ a b=>?_;exact t _ _ ⟨ad.bj (c+1),b.cut,d,h⟩;refine wp_exit<|rU (rU (C1 ?_));exact s _ _ ⟨b.cut,d,(os h)⟩
 rintro a w ⟨b,d,z⟩;subst i;have h:=j;clear j;dsimp only[ad.Qt]at h;refine qv _ _<|Gv [] [(4,.i (-1))] b λ a b=>wp_ret ?_;obtain rfl:=cr h;refine F8 Tryz.results102 b rfl ?_;exact⟨rfl,d.pK [] []⟩
theorem abw{W:World}{X:List Nat}{F:Nat}{j:ad.a7}{fb:Int}{r:(List (List UInt8))×(List ad.Target)}{t:Nat}{u:iC}{fF:Nat}{z:Nat}{B:iC}{C:Nat}{au:List Nat}(f:bd W au X W [] [bh.hB t [.q u fF j.l,.map (some z),.q B C j.cV],cd ad.iw u fF j.l,bh.map kq (Value.int .i64) z j.bF,cd (eT .i64) B C j.cV])(h:ad.wm F j fb=some r) :
 Calls Tryz.prog 60 [.cM t,.i fb].toArray W (λ e w'=>∃Pl:Option Addr,∃P9:Nat,∃XY:List Value,∃Pm:Option Addr,∃P_:Nat,∃XZ:List Value,e= .returned (.tuple #[.q Pl P9 r.1,.q Pm P_ r.2])/\bd W au X w' [aX.row 9 1 (.q Pl P9 r.1) r.1 XY,aX.row 102 2 (.q Pm P_ r.2) r.2 XZ] [bh.rows hN XY r.1,bh.rows ad.ix XZ r.2]):=by
 refine Rr Tryz.func60 rfl Tryz.ntmps60 rfl λ a d=>?_;rw[ad.wm]at h;refine wp_seq_k λ K qu=>mE<|tH (cs:=[.cM t]) wn (Hg rfl rfl (d.g rfl)) d f rfl rfl λ a Q w _ d f=>j_ 2 [] [] d λ a d=>wpList_nil (qu _ _ ?_);refine wp_seq_k λ K qv=>mE<|tH (cs:=[.slice none 0 0]) wn (rV Tryz.zeroValue95 rfl rfl) d f rfl rfl λ a q w _ d f=>wpList_nil<|qv _ _<|wp_seq_k λ K qw=>mE<|tH (cs:=[.slice none 0 0]) wn (rV Tryz.zeroValue96 rfl rfl) d f rfl rfl λ a s w _ d f=>wpList_nil ?_
 refine qw _ _<|wp_seq_k λ K qx=>wp_seq_k λ K qy=>mE<|oX 2 [0,0] [(14,.cM t),(15,.i fb)] [Q,0] (fW (iX (f.e 2 rfl)) gz) d λ a d=>?_;obtain⟨D,agV,h⟩:=ad.fR h;have hc:=f;refine Cc (vs:=[.cM t,.i fb]) wn rfl Tryz.call99 ⟨(d.g rfl),(d.g rfl),trivial⟩ (Qg ((hc.into 0).pick ⟨⟨0,rfl⟩,⟨1,rfl⟩,⟨2,rfl⟩,⟨3,rfl⟩,trivial⟩) agV) d rfl rfl ?_;rintro _ w ⟨E,G,arV,rfl,O⟩;refine⟨_,rfl,λ a d=>?_⟩;have f:=hc.back 0 O;clear O hc;obtain⟨hI,agX,h⟩:=ad.fR h;have hc:=f
 have aq:=hc.freeze 0 0 rfl rfl;refine Cc (vs:=[.q E G D]) wn rfl Tryz.call101 ⟨(d.g rfl),trivial⟩ (Qi ((aq.into 0).pick ⟨⟨0,rfl⟩,trivial⟩) agX) d rfl rfl ?_;rintro _ w ⟨xY,rfl,O⟩;refine⟨_,rfl,λ a d=>?_⟩;have i:a1 [] _ w:=O.bO;have f:=hc.fx 0 (by exact trivial) O;clear O hc aq;clear i;refine wpList_nil ?_;have d:=d.cut (l':=[(2,.cM Q),(6,.cM q),(7,.cM s),(17,.func (.func 123) #[] #[.cM xY])]);refine qy _ _<|wp_block ?_;have f:=f.freeze 1 0 rfl rfl
 have f:=f.Ss 0 rfl;have f:=f.FC (α:=ad.Target) 102 2;have f:=f.more (y:=bh.rows ad.ix [] []) rfl;have f:=f.FC (α:=List UInt8) 9 1;have f:=f.more (y:=bh.rows hN [] []) rfl;obtain⟨ahQ,Kw,h⟩:=ad.fR h
 refine Qc (c:=G) (A:=E) (β:=(Option Addr)×(Nat)×(List (List UInt8))×(List Value)×(Option Addr)×(Nat)×(List ad.Target)×(List Value)) (l1:=λ _ n=>[(2,.cM Q),(6,.cM q),(7,.cM s),(9,.i n)]) (λ((R,S,H,Y,U,V,I,Z):(Option Addr)×(Nat)×(List (List UInt8))×(List Value)×(Option Addr)×(Nat)×(List ad.Target)×(List Value))=>[aX.row 9 1 (.q R S H) H Y,aX.row 102 2 (.q U V I) I Z,aX.dl s 96 [.q U V I],aX.dl q 95 [.q R S H],aX.dl Q 111 [.cM t]]) (λ((R,S,H,Y,U,V,I,Z):(Option Addr)×(Nat)×(List (List UInt8))×(List Value)×(Option Addr)×(Nat)×(List ad.Target)×(List Value))=>[bh.rows hN Y H,bh.rows ad.ix Z I,bh.hB xY [.q E G D],cd (eT .i64) E G D,bh.hB t [.q u fF j.l,.map (some z),.q B C j.cV],cd ad.iw u fF j.l,bh.map kq (Value.int .i64) z j.bF,cd (eT .i64) B C j.cV]) (λ(Gf:zz)((R,S,H,Y,U,V,I,Z):(Option Addr)×(Nat)×(List (List UInt8))×(List Value)×(Option Addr)×(Nat)×(List ad.Target)×(List Value))=>ad.tg F j Gf H I=some ahQ) D (none,0,[],[],none,0,[],[]) 2 3 Qf Tryz.call123 d rfl rfl rfl (f.eR [0,0,2,3,5,6,7,8]) Kw (λ b=>by obtain⟨_,_,_,_,_,_,_,_⟩:=b;rfl) (λ b=>by obtain⟨_,_,_,_,_,_,_,_⟩:=b;rfl) ?_ ?_ ?_
 ·clear h Kw f d;intro L ahv n w a K d b9;refine mn (by kernel_rfl)<|j_ 1 [] [(9,.i n)] d λ a d=>wpList_nil ?_;exact b9 _ d.cut
 ·clear h Kw f d;intro L dc hq bp cA b ahv n Gf w a K h d f b9;obtain⟨R,S,H,Y,U,V,I,Z⟩:=b;dsimp only at h f;rw[ad.tg]at h;obtain⟨Uc,h,Kt⟩:=ad.fR h;refine Oy (λ a w=>∃(Da:iC)(DE:Nat)(q7:List (List UInt8))(G_:oH)(Db:iC)(DF:Nat)(q8:List ad.Target)(G':oH),Fr ⟨59,[]⟩ [] a/\bd W au X w [aX.obj dc hq,aX.obj bp cA,aX.row 9 1 (.q Da DE q7) q7 G_,aX.row 102 2 (.q Db DF q8) q8 G',aX.dl s 96 [.q Db DF q8],aX.dl q 95 [.q Da DE q7],aX.dl Q 111 [.cM t]] [bh.rows hN G_ q7,bh.rows ad.ix G' q8,bh.hB xY [.q E G D],cd (eT .i64) E G D,bh.hB t [.q u fF j.l,.map (some z),.q B C j.cV],cd ad.iw u fF j.l,bh.map kq (Value.int .i64) z j.bF,cd (eT .i64) B C j.cV]/\Uc=(q7,q8)) (λ K J5=>?_) ?_
  ·clear Kt;refine kB λ K J6=>mn (by kernel_rfl)<|oX 5 [0,0,1,0] [(23,.q u fF j.l),(24,.i n)] [t,0,Q,0] (fW (iX (f.e 6 rfl)) (fW (f.d 4 rfl).2.2 gz)) d λ a d=>?_;obtain⟨p,aho,h⟩:=ad.fR h;obtain⟨aeH,af',_,⟨Dc,DG,kE,mD,rfl,afK,afL⟩,afA⟩:=wO _ (f.d 5 rfl) aho;have f:=f.more (y:=cd ad.hO Dc DG p.Fields) afK;have f:=f.more (y:=cd ad.np kE mD p.a3) afL;refine nn wn (nu Tryz.underlying22 Tryz.sizeOf39 rfl (d.g rfl) (d.g rfl) aeH af') d rfl rfl λ a d=>?_;refine oX 4 [0,3] [(27,.q kE mD p.a3),(28,.i (p.a3.length:Int)),(29,.i 0)] [dh u,fA u+(n).toNat*4+3] (fW afA gz) d λ a d=>wpList_nil (J6 _ _ ?_);obtain⟨Lm,h,Ku⟩:=ad.fR h;refine Oy (λ a w=>∃(Dd:iC)(DH:Nat)(q9:List (List UInt8))(Ha:oH)(Df:iC)(DI:Nat)(q_:List ad.Target)(Hb:oH),Fr ⟨59,[]⟩ [] a/\bd W au X w [aX.obj dc hq,aX.obj bp cA,aX.row 9 1 (.q Dd DH q9) q9 Ha,aX.row 102 2 (.q Df DI q_) q_ Hb,aX.dl s 96 [.q Df DI q_],aX.dl q 95 [.q Dd DH q9],aX.dl Q 111 [.cM t]] [bh.rows hN Ha q9,bh.rows ad.ix Hb q_,cd ad.np kE mD p.a3,cd ad.hO Dc DG p.Fields,bh.hB xY [.q E G D],cd (eT .i64) E G D,bh.hB t [.q u fF j.l,.map (some z),.q B C j.cV],cd ad.iw u fF j.l,bh.map kq (Value.int .i64) z j.bF,cd (eT .i64) B C j.cV]/\Lm=(q9,q_)) (λ K Am=>?_) ?_
   ·clear Ku;refine Xj (λ(fm:Nat) a w=>∃(J:iC)(M:Nat)(v:List (List UInt8))(zk:oH)(rZ:iC)(sl:Nat)(P:List ad.Target)(C3:oH)(k:Int),Fr ⟨59,[]⟩ [(6,.cM q),(7,.cM s),(9,.i n),(27,.q kE mD p.a3),(28,.i (p.a3.length:Int)),(29,.i k)] a/\bd W au X w [aX.obj dc hq,aX.obj bp cA,aX.row 9 1 (.q J M v) v zk,aX.row 102 2 (.q rZ sl P) P C3,aX.dl s 96 [.q rZ sl P],aX.dl q 95 [.q J M v],aX.dl Q 111 [.cM t]] [bh.rows hN zk v,bh.rows ad.ix C3 P,cd ad.np kE mD p.a3,cd ad.hO Dc DG p.Fields,bh.hB xY [.q E G D],cd (eT .i64) E G D,bh.hB t [.q u fF j.l,.map (some z),.q B C j.cV],cd ad.iw u fF j.l,bh.map kq (Value.int .i64) z j.bF,cd (eT .i64) B C j.cV]/\ad.th F n p fm v P k=some Lm) F ⟨R,S,H,Y,U,V,I,Z,0,d.cut,f.eR [2,3,0,1,4,5,6,7,8,9],h⟩ ?_ ?_;rintro a w ⟨J,M,v,zk,rZ,sl,P,C3,k,d,f,h⟩;exact absurd h (by simp[ad.th]);rintro fm a w ⟨J,M,v,zk,rZ,sl,P,C3,k,d,f,h⟩ K ae_;rw[ad.th]at h;refine kB λ K J4=>mn (by kernel_rfl)<|j_ 1 [] [(30,.bool (decide (k<(p.a3.length:Int))))] d λ a d=>wpList_nil (J4 _ _ ?_);refine kB λ K aeR=>Oz (d.g rfl) (λ J'=>?_) (λ J'=>?_)
    ·have h:=ad.H4 J' h;refine GM<|aeR _ _<|kB λ K aeS=>?_;obtain⟨Ud,h,Kv⟩:=ad.fR h;refine Oy (λ a w=>∃(Dg:iC)(DJ:Nat)(q':List (List UInt8))(Hc:oH)(Dh:iC)(DK:Nat)(ra:List ad.Target)(Hd:oH),Fr ⟨59,[]⟩ [(6,.cM q),(7,.cM s),(9,.i n),(27,.q kE mD p.a3),(28,.i (p.a3.length:Int)),(29,.i k)] a/\bd W au X w [aX.obj dc hq,aX.obj bp cA,aX.row 9 1 (.q Dg DJ q') q' Hc,aX.row 102 2 (.q Dh DK ra) ra Hd,aX.dl s 96 [.q Dh DK ra],aX.dl q 95 [.q Dg DJ q'],aX.dl Q 111 [.cM t]] [bh.rows hN Hc q',bh.rows ad.ix Hd ra,cd ad.np kE mD p.a3,cd ad.hO Dc DG p.Fields,bh.hB xY [.q E G D],cd (eT .i64) E G D,bh.hB t [.q u fF j.l,.map (some z),.q B C j.cV],cd ad.iw u fF j.l,bh.map kq (Value.int .i64) z j.bF,cd (eT .i64) B C j.cV]/\Ud=(q',ra)) (λ K Ev=>?_) ?_
     ·clear Kv;refine kB λ K aeT=>mn (by kernel_rfl)<|j_ 1 [] [(31,.i k)] d λ a d=>?_;obtain⟨o,ahp,h⟩:=ad.fR h;obtain⟨aeJ,agb,_,⟨Hr,HU,Hs,HV,rfl,afM,afN⟩,afC⟩:=wO _ (f.d 2 rfl) ahp;have f:=f.more (y:=cd ad.wU Hr HU o.cg) afM;have f:=f.more (y:=cd ad.wT Hs HV o.ck) afN;refine nn wn (nu Tryz.underlying37 Tryz.sizeOf61 rfl (d.g rfl) (d.g rfl) aeJ agb) d rfl rfl λ a d=>?_;refine oX 1 [0,0] [(33,.agg #[bW o.Name,.bool o.Static,.q Hr HU o.cg,.i o.Returns.Kind,bW o.Returns.ao,.i o.fP,.i o.fO,bW o.Code,.q Hs HV o.ck])] [dh kE,fA kE+(k).toNat*9] (fW afC gz) d λ a d=>tH (cs:=[bW [],.bool false,.slice none 0 0,.i 0,bW [],.i 0,.i 0,bW [],.slice none 0 0]) wn (rV Tryz.zeroValue61 rfl rfl) d f rfl rfl λ a Jk w _ d f=>j_ 1 [] [(10,.i k)] d λ a d=>?_;refine rI (vs:=[bW o.Name,.bool o.Static,.q Hr HU o.cg,.i o.Returns.Kind,bW o.Returns.ao,.i o.fP,.i o.fO,bW o.Code,.q Hs HV o.ck]) 0 f rfl wn rfl Tryz.sizeOf61 rfl rfl rfl rfl (d.g rfl) (d.g rfl) rfl λ w f=>wpList_nil<|aeT _ _<|kB λ K aeU=>mn (by kernel_rfl)<|j_ 2 [] [(34,.i n),(35,.i k)] d λ a d=>?_;refine nn wn (ap8 (vs:=[(0,.i n),(1,.i k)]) (cs:=[.i n,.i k]) Tryz.zeroValue102 Tryz.underlying102 akB rfl ⟨⟨(d.g rfl),rfl⟩,⟨(d.g rfl),rfl⟩,trivial⟩ (by kernel_rfl)) d rfl rfl λ a d=>tH (cs:=[.i 0,.i 0]) wn (rV Tryz.zeroValue102 rfl rfl) d f rfl rfl λ a Jl w _ d f=>rI (vs:=[.i n,.i k]) 0 f rfl wn rfl Tryz.sizeOf102 rfl rfl rfl rfl (d.g rfl) (d.g rfl) rfl λ w f=>wpList_nil ?_;have d:=d.cut (l':=[(6,.cM q),(7,.cM s),(9,.i n),(11,.cM Jk),(12,.cM Jl),(27,.q kE mD p.a3),(28,.i (p.a3.length:Int)),(29,.i k)]);refine aeU _ _<|kB λ K aeV=>kB λ K aeW=>mn (by kernel_rfl)<|oX 3 [0,0,1,0] [(37,.q J M v),(39,bW o.Name)] [Jk,0,q,0] (fW (iX (f.e 7 rfl)) (fW (iX (f.e 1 rfl)) gz)) d λ a d=>?_;obtain⟨wJ,agY,h⟩:=ad.fR h;have hc:=f;have aq:=hc.freeze 4 2 rfl rfl;refine Cc (vs:=[.q J M v,bW o.Name]) wn rfl Tryz.call102 ⟨(d.g rfl),(d.g rfl),trivial⟩ (aby ((aq.into 0).pick ⟨⟨0,rfl⟩,trivial⟩) agY) d rfl rfl ?_;rintro _ w ⟨rfl,O⟩;refine⟨_,rfl,λ a d=>?_⟩;have i:a1 [] _ w:=O.bO;have f:=hc.fx 0 (by exact trivial) O;clear O hc aq;clear i;refine j_ 1 [] [(13,.i wJ)] d λ a d=>wpList_nil (aeW _ _ ?_);refine kB λ K aeX=>mn (by kernel_rfl)<|j_ 2 [] [(42,.bool (decide (0<=wJ)))] d λ a d=>wpList_nil (aeX _ _ ?_);refine Oz (d.g rfl) (λ Ka=>?_) (λ Ka=>?_)
      ·have h:=ad.H4 Ka h;refine kB λ K aeY=>mn (by kernel_rfl)<|oX 3 [0,0,1,0] [(43,.q rZ sl P),(44,.i wJ),(45,.agg #[.i n,.i k])] [Jl,0,s,0] (fW (iX (f.e 6 rfl)) (fW (iX (f.e 0 rfl)) gz)) d λ a d=>?_;obtain⟨O3,TW,h⟩:=ad.fR h;obtain⟨aeK,agc,_,rfl,afD⟩:=amK (f.e 5 rfl) (f.d 3 rfl) TW;refine nn wn (nu Tryz.underlying96 Tryz.sizeOf102 rfl (d.g rfl) (d.g rfl) aeK agc) d rfl rfl λ a d=>?_;obtain⟨Lz,agm,h⟩:=ad.fR h;refine ane (T:=ad.ix) (d':=(⟨n,k⟩:ad.Target)) (vs:=[.i n,.i k]) (cs0:=[.i O3.ao,.i O3.Method]) (kk:=0) 5 3 agm f rfl rfl TW rfl afD wn rfl Tryz.sizeOf102 rfl rfl rfl rfl rfl (d.g rfl) (d.g rfl) rfl λ ap1 w N i f=>?_;try unfold Value.q at f;try unfold Value.q at d;rw[N]at f;try rw[N]at d;clear N;clear i;refine wpList_nil ?_;have d:=d.cut (l':=[(6,.cM q),(7,.cM s),(9,.i n),(27,.q kE mD p.a3),(28,.i (p.a3.length:Int)),(29,.i k)]);refine aeY _ _<|OA<|rU (C1 ?_)
       exact Ev _ _ ⟨J,M,v,zk,rZ,sl,Lz,ap1,d.cut,f.pK [2,3,4,5,6,7,8] [3,0,5,6,7,8,9,10,11,12],(os h)⟩
      have h:=ad.H3 Ka h;refine GM<|aeV _ _<|Xi (m:=11) 8 (a1 (Value.q J M v).ownBlock.toList) (by kernel_rfl) rfl (by kernel_rfl) λ w i=>?_;have f:=f.ez i;clear i;have l:=f;have g:=a1.refl (Value.q J M v).ownBlock.toList w;refine dD [0,1,2,5,6] 5 [0,0,1,0,2,0,3,0] [(47,.q J M v),(49,bW o.Name),(52,.q rZ sl P),(53,.agg #[.i n,.i k])] [Jl,0,s,0,Jk,0,q,0] (λ bT i=>(fW (D7 i (l.FH 7 4 rfl rfl (by decide)) (zU (l.e 7 rfl)) (iX (l.e 7 rfl))) (fW (D7 i (l.FH 1 4 rfl rfl (by decide)) (zU (l.e 1 rfl)) (iX (l.e 1 rfl))) (fW (D7 i (l.FH 6 4 rfl rfl (by decide)) (zU (l.e 6 rfl)) (iX (l.e 6 rfl))) (fW (D7 i (l.FH 0 4 rfl rfl (by decide)) (zU (l.e 0 rfl)) (iX (l.e 0 rfl))) gz))))) d g λ a d=>PJ 3 7 rfl rfl (by kernel_rfl) (λ _=>g) ?_ ?_;refine BG (cs:=[bW o.Name]) wn (zl (vs:=[(0,bW o.Name)]) Tryz.underlying95 Tryz.sizeOf9 Tryz.zeroValue9 rfl rfl rfl ⟨⟨(d.g rfl),rfl⟩,trivial⟩ (by kernel_rfl)) d f rfl rfl λ a aem w i Ay d f=>?_;have Ay:=eY g.size Ay;have g:=g.trans i (by simp);clear i;refine ii<|PJ 4 7 rfl rfl (by kernel_rfl) (λ _=>g) ?_ ?_;obtain⟨E2,agn,h⟩:=ad.fR h;refine NT (T:=hN) (ml:=[o.Name]) 5 0 2 f rfl rfl rfl Tryz.underlying95 Lb rfl rfl agn rfl rfl ⟨_,_,rfl,rfl,rfl⟩ wn rfl (d.g rfl) (d.g rfl) d rfl rfl λ a Pk P8 ap2 w i d f=>?_;have g:=g.trans i (λ x aa=>.inl aa);clear i;refine ii<|j7 7 rfl (by kernel_rfl) (λ _=>g)<|BG (cs:=[.i n,.i k]) wn (zl (vs:=[(0,.agg #[.i n,.i k])]) Tryz.underlying96 Tryz.sizeOf102 Tryz.zeroValue102 rfl rfl rfl ⟨⟨(d.g rfl),rfl⟩,trivial⟩ (by kernel_rfl)) d f rfl rfl λ a aq9 w i Tq d f=>?_;have Tq:=eY g.size Tq;have g:=g.trans i (by simp);clear i;refine ii ?_;refine j7 8 rfl (by kernel_rfl) (λ _=>g) ?_;obtain⟨pn,AN,h⟩:=ad.fR h;refine Gp (T:=ad.ix) (ml:=[(⟨n,k⟩:ad.Target)]) 6 0 4 f rfl rfl rfl Tryz.underlying96 La rfl rfl AN rfl rfl ⟨_,_,rfl,rfl,rfl⟩ wn rfl (d.g rfl) (d.g rfl) d rfl rfl λ a r0 sm C4 w d f=>ii ?_;clear l g;have l:=f;have g:=a1.refl [] w;refine eC.next 9 (a1 [] w) (by kernel_rfl)<|j7 9 rfl (by kernel_rfl) (λ _=>g)<|rI (vs:=[.q Pk P8 E2]) 7 f rfl wn rfl Tryz.sizeOf95 rfl rfl rfl rfl (d.g rfl) (d.g rfl) rfl λ w f=>ii ?_;clear l g;have l:=f;have g:=a1.refl [] w;refine eC.next 10 (a1 [] w) (by kernel_rfl)<|j7 10 rfl (by kernel_rfl) (λ _=>g)<|rI (vs:=[.q r0 sm pn]) 6 f rfl wn rfl Tryz.sizeOf96 rfl rfl rfl rfl (d.g rfl) (d.g rfl) rfl λ w f=>ii ?_;clear l g;have l:=f;have g:=a1.refl [] w;refine eC.next 11 (a1 [] w) (by kernel_rfl)<|Dx (by kernel_rfl) ?_ (λ _=>g);clear l g;have d:=d.cut (l':=[(6,.cM q),(7,.cM s),(9,.i n),(27,.q kE mD p.a3),(28,.i (p.a3.length:Int)),(29,.i k)]);exact Ev _ _ ⟨Pk,P8,E2,ap2,r0,sm,pn,C4,d.cut,f.pK [2,3,4,5,6,7,8] [1,0,6,7,8,9,10,11,12,13],(os h)⟩;refine BG (cs:=[.i n,.i k]) wn (zl (vs:=[(0,.agg #[.i n,.i k])]) Tryz.underlying96 Tryz.sizeOf102 Tryz.zeroValue102 rfl rfl rfl ⟨⟨(d.g rfl),rfl⟩,trivial⟩ (by kernel_rfl)) d f rfl rfl λ a aen w i Az d f=>?_;have Az:=eY g.size Az;have g:=g.trans i (by simp);clear i;refine ii<|j7 4 rfl (by kernel_rfl) (λ _=>g) ?_;obtain⟨Bl,KE,h⟩:=ad.fR h;refine NT (T:=hN) (ml:=[o.Name]) 6 1 2 f rfl rfl rfl Tryz.underlying95 Lb rfl rfl KE rfl rfl ⟨_,_,rfl,rfl,rfl⟩ wn rfl (d.g rfl) (d.g rfl) d rfl rfl λ a zt zW O6 w i d f=>?_;have g:=g.trans i (λ x aa=>.inl aa);clear i;refine ii ?_;refine j7 8 rfl (by kernel_rfl) (λ _=>g) ?_;obtain⟨pn,AN,h⟩:=ad.fR h;refine Gp (T:=ad.ix) (ml:=[(⟨n,k⟩:ad.Target)]) 6 0 4 f rfl rfl rfl Tryz.underlying96 La rfl rfl AN rfl rfl ⟨_,_,rfl,rfl,rfl⟩ wn rfl (d.g rfl) (d.g rfl) d rfl rfl λ a r0 sm C4 w d f=>ii ?_;clear l g;have l:=f;have g:=a1.refl [] w;refine eC.next 9 (a1 [] w) (by kernel_rfl)<|j7 9 rfl (by kernel_rfl) (λ _=>g)<|rI (vs:=[.q zt zW Bl]) 7 f rfl wn rfl Tryz.sizeOf95 rfl rfl rfl rfl (d.g rfl) (d.g rfl) rfl λ w f=>ii ?_;clear l g;have l:=f;have g:=a1.refl [] w;refine eC.next 10 (a1 [] w) (by kernel_rfl)<|j7 10 rfl (by kernel_rfl) (λ _=>g)<|rI (vs:=[.q r0 sm pn]) 6 f rfl wn rfl Tryz.sizeOf96 rfl rfl rfl rfl (d.g rfl) (d.g rfl) rfl λ w f=>ii ?_;clear l g;have l:=f;have g:=a1.refl [] w;refine eC.next 11 (a1 [] w) (by kernel_rfl)<|Dx (by kernel_rfl) ?_ (λ _=>g);clear l g;have d:=d.cut (l':=[(6,.cM q),(7,.cM s),(9,.i n),(27,.q kE mD p.a3),(28,.i (p.a3.length:Int)),(29,.i k)]);exact Ev _ _ ⟨zt,zW,Bl,O6,r0,sm,pn,C4,d.cut,f.pK [2,3,4,5,6,7,8] [1,0,6,7,8,9,10,11,12,13],(os h)⟩;refine BG (cs:=[.i n,.i k]) wn (zl (vs:=[(0,.agg #[.i n,.i k])]) Tryz.underlying96 Tryz.sizeOf102 Tryz.zeroValue102 rfl rfl rfl ⟨⟨(d.g rfl),rfl⟩,trivial⟩ (by kernel_rfl)) d f rfl rfl λ a aem w i Ay d f=>?_;have Ay:=eY g.size Ay;have g:=g.trans i (by simp);clear i;refine ii<|j7 3 rfl (by kernel_rfl) (λ _=>g)<|BG (cs:=[bW o.Name]) wn (zl (vs:=[(0,bW o.Name)]) Tryz.underlying95 Tryz.sizeOf9 Tryz.zeroValue9 rfl rfl rfl ⟨⟨(d.g rfl),rfl⟩,trivial⟩ (by kernel_rfl)) d f rfl rfl λ a aen w i Az d f=>?_;have Az:=eY g.size Az;have g:=g.trans i (by simp);clear i;refine ii ?_;refine j7 4 rfl (by kernel_rfl) (λ _=>g) ?_;obtain⟨Bl,KE,h⟩:=ad.fR h;refine NT (T:=hN) (ml:=[o.Name]) 6 0 2 f rfl rfl rfl Tryz.underlying95 Lb rfl rfl KE rfl rfl ⟨_,_,rfl,rfl,rfl⟩ wn rfl (d.g rfl) (d.g rfl) d rfl rfl λ a zt zW O6 w i d f=>?_;have g:=g.trans i (λ x aa=>.inl aa);clear i;refine ii<|j7 8 rfl (by kernel_rfl) (λ _=>g) ?_;obtain⟨pn,AN,h⟩:=ad.fR h;refine Gp (T:=ad.ix) (ml:=[(⟨n,k⟩:ad.Target)]) 6 0 4 f rfl rfl rfl Tryz.underlying96 La rfl rfl AN rfl rfl ⟨_,_,rfl,rfl,rfl⟩ wn rfl (d.g rfl) (d.g rfl) d rfl rfl λ a r0 sm C4 w d f=>ii ?_;clear l g;have l:=f;have g:=a1.refl [] w;refine eC.next 9 (a1 [] w) (by kernel_rfl)<|j7 9 rfl (by kernel_rfl) (λ _=>g)<|rI (vs:=[.q zt zW Bl]) 7 f rfl wn rfl Tryz.sizeOf95 rfl rfl rfl rfl (d.g rfl) (d.g rfl) rfl λ w f=>ii ?_;clear l g;have l:=f;have g:=a1.refl [] w;refine eC.next 10 (a1 [] w) (by kernel_rfl)<|j7 10 rfl (by kernel_rfl) (λ _=>g)<|rI (vs:=[.q r0 sm pn]) 6 f rfl wn rfl Tryz.sizeOf96 rfl rfl rfl rfl (d.g rfl) (d.g rfl) rfl λ w f=>ii ?_;clear l g;have l:=f;have g:=a1.refl [] w;refine eC.next 11 (a1 [] w) (by kernel_rfl)<|Dx (by kernel_rfl) ?_ (λ _=>g);clear l g;have d:=d.cut (l':=[(6,.cM q),(7,.cM s),(9,.i n),(27,.q kE mD p.a3),(28,.i (p.a3.length:Int)),(29,.i k)]);exact Ev _ _ ⟨zt,zW,Bl,O6,r0,sm,pn,C4,d.cut,f.pK [2,3,4,5,6,7,8] [1,0,6,7,8,9,10,11,12,13],(os h)⟩
     rintro a w ⟨Dg,DJ,q',Hc,Dh,DK,ra,Hd,d,f,aA⟩;subst Ud;have h:=Kv;clear Kv;dsimp only at h;refine aeS _ _<|mn (by kernel_rfl)<|j_ 2 [] [(29,.i (ad.bj (k+1)))] d λ a d=>wpList_nil ?_;exact ae_ _ _ ⟨Dg,DJ,q',Hc,Dh,DK,ra,Hd,ad.bj (k+1),d.cut,f,h⟩
    have h:=ad.H3 J' h;refine OA<|rU (rU (C1 ?_));exact Am _ _ ⟨J,M,v,zk,rZ,sl,P,C3,d.cut,f,(os h)⟩
   rintro a w ⟨Dd,DH,q9,Ha,Df,DI,q_,Hb,d,f,aA⟩;subst Lm;have h:=Ku;clear Ku;dsimp only at h;exact J5 _ _ ⟨Dd,DH,q9,Ha,Df,DI,q_,Hb,d.cut,f.eR [0,1,4,5,6,7,8,9],(os h)⟩
  rintro a w ⟨Da,DE,q7,G_,Db,DF,q8,G',d,f,aA⟩;subst Uc;have h:=Kt;clear Kt;dsimp only at h;exact b9 (Da,DE,q7,G_,Db,DF,q8,G') _ _ h (f)
 clear f d;intro aq_ b a w Kx d f;obtain⟨R,S,H,Y,U,V,I,Z⟩:=b;dsimp only at Kx f;rw[ad.tg]at Kx;obtain rfl:=cr Kx;have d:=d.cut (l':=[(6,.cM q),(7,.cM s)]);dsimp only at h;refine qx _ _<|wp_seq_k λ K aeZ=>abx (by kernel_rfl) (by kernel_rfl)<|ak_ 4 [0,0,1,0] [(4,.q R S H),(5,.q U V I)] [s,0,q,0] (λ bT i=>(fW (xT i (iX (f.e 4 rfl))) (fW (xT i (iX (f.e 3 rfl))) gz))) d λ a d=>wpQuiet_nil λ w i=>?_;have f:=f.ez i;clear i;refine aeZ _ _<|wp_ret ?_
 obtain rfl:=cr h;refine ajq 0 Tryz.results60 d f rfl rfl rfl λ w f=>?_;exact⟨R,S,Y,U,V,Z,rfl,f.pK [1,2] [0,1]⟩
section
variable{F:Nat->Prop}{w:World}
theorem aba{cs:List Value}{d:ad.Kind}(h:(bc.ty 47).rd F w cs d):ad.wU.rd F w cs d:=by change eA (λ t=>(e7 DZ t).ty) F w [.i .i64,.s] cs (d.Kind,d.ao,())at h;obtain⟨_,_,rfl,rfl,_,_,rfl,rfl,rfl⟩:=h;rfl
theorem aa'{cs:List Value}{d:ad.Handler}(h:(bc.ty 71).rd F w cs d):ad.wT.rd F w cs d:=by change eA (λ t=>(e7 D2 t).ty) F w [.i .i64,.i .i64,.i .i64,.s] cs (d.From,d.To,d.dU,d.ao,())at h;obtain⟨_,_,rfl,rfl,_,_,rfl,rfl,_,_,rfl,rfl,_,_,rfl,rfl,rfl⟩:=h;rfl
theorem aa_{cs:List Value}{d:ad.Field}(h:(bc.ty 121).rd F w cs d):ad.hO.rd F w cs d:=by change eA (λ t=>(e7 z4 t).ty) F w [.s,.i .i64,.s] cs (d.Name,d.Kind.Kind,d.Kind.ao,())at h;obtain⟨_,_,rfl,rfl,_,_,rfl,rfl,_,_,rfl,rfl,rfl⟩:=h;rfl
theorem abb{cs:List Value}{d:ad.Method}(h:(bc.ty 61).rd F w cs d):ad.np.rd F w cs d:=by change eA (λ t=>(e7 D5 t).ty) F w [.s,.b,.l 47,.i .i64,.s,.i .i64,.i .i64,.s,.l 71] cs (d.Name,d.Static,d.cg,d.Returns.Kind,d.Returns.ao,d.fP,d.fO,d.Code,d.ck,())at h;obtain⟨_,_,rfl,rfl,_,_,rfl,rfl,_,_,rfl,I,_,_,rfl,rfl,_,_,rfl,rfl,_,_,rfl,rfl,_,_,rfl,rfl,_,_,rfl,rfl,_,_,rfl,J,rfl⟩:=h;have I:(bX (bc.ty 47)).rd F w [_] d.cg:=I;have J:(bX (bc.ty 71)).rd F w [_] d.ck:=J;obtain⟨A,c,rfl⟩:=jU _ I;obtain⟨a,b,rfl⟩:=jU _ J;exact⟨A,c,a,b,rfl,iP (λ _ _=>aba) I,iP (λ _ _=>aa') J⟩
theorem aa9{cs:List Value}{d:ad.ao}(h:(bc.ty 39).rd F w cs d):ad.iw.rd F w cs d:=by change eA (λ t=>(e7 D4 t).ty) F w [.s,.s,.l 121,.l 61] cs (d.Name,d.ch,d.Fields,d.a3,())at h;obtain⟨_,_,rfl,rfl,_,_,rfl,rfl,_,_,rfl,I,_,_,rfl,J,rfl⟩:=h;have I:(bX (bc.ty 121)).rd F w [_] d.Fields:=I;have J:(bX (bc.ty 61)).rd F w [_] d.a3:=J;obtain⟨A,c,rfl⟩:=jU _ I;obtain⟨a,b,rfl⟩:=jU _ J;exact⟨A,c,a,b,rfl,iP (λ _ _=>aa_) I,iP (λ _ _=>abb) J⟩
theorem P5{cs:List Value}{d:Int}(h:(bc.ty 3).rd F w cs d):cs=[.int .i64 d]:=by change eA (λ t=>(e7 D0 t).ty) F w [.i .i64] cs (d,())at h;obtain⟨_,_,rfl,rfl,rfl⟩:=h;rfl
theorem al7{F':Nat->Prop}{cs:List Value}{d:ad.Field}(h:ad.hO.rd F w cs d):(bc.ty 121).rd F' w cs d:=by change cs=_ at h;subst h;change eA (λ t=>(e7 z4 t).ty) F' w [.s,.i .i64,.s] _ (d.Name,d.Kind.Kind,d.Kind.ao,());exact⟨_,_,rfl,rfl,_,_,rfl,rfl,_,_,rfl,rfl,rfl⟩
theorem al9{F':Nat->Prop}{cs:List Value}{d:ad.Target}(h:ad.ix.rd F w cs d):(bc.ty 102).rd F' w cs d:=by change cs=_ at h;subst h;change eA (λ t=>(e7 D1 t).ty) F' w [.i .i64,.i .i64] _ (d.ao,d.Method,());exact⟨_,_,rfl,rfl,_,_,rfl,rfl,rfl⟩
theorem al8{F':Nat->Prop}{cs:List Value}{d:List UInt8}(h:hN.rd F w cs d):(bc.ty 9).rd F' w cs d:=by change cs=_ at h;subst h;change eA (λ t=>(e7 D3 t).ty) F' w [.s] _ (d,());exact⟨_,_,rfl,rfl,rfl⟩
theorem ac_{es:List MapEntry}{d:List (List UInt8×Int)}(h: @gS bc F w 9 3 Bh es d):Hu kq (Value.int .i64) es d:=by
 induction es generalizing d with
 |nil=>cases d with
  |nil=>rfl
  |cons p d=>exact h.elim
 |cons e es a=>cases d with
  |nil=>exact h.elim
  |cons p d=>obtain⟨I,⟨xs,J,b⟩,c⟩:=h;have J:=P5 J;subst J;have:=a c;unfold Hu at this⊢;rw[eZ,eZ,this];rw[show e.val= .int .i64 p.2 from b,show e.key=kq.enc p.1 from I]
abbrev tm(cs:List ad.ao)(bF:List (List UInt8×Int))(hM:List Int):List (az bc.El):=[.c 115 [.s 39 (cs:List (bc.El 39)),.m 1,.s 3 (hM:List (bc.El 3))],.m 9 3 (bF:List (bc.El 9×bc.El 3))]
theorem Ux{W:World}{au:List Nat}{X:Nat->Prop}{ρ vs:List Value}{cs:List ad.ao}{bF:List (List UInt8×Int)}{hM:List Int}{n:Int}
 (e:Mem bc W au X (tm cs bF hM) ρ w)(m:aR bc (aY X (tm cs bF hM) ρ w) w ρ (tm cs bF hM) [.b 0 0,.p (.int .i64 n)] vs) :
 ∃g A c r a d,vs=[.pointer (some ⟨g,0,none⟩),.int .i64 n]/\bd w [] [] w [] [bh.hB g [.slice A cs.length c,.map (some r),.slice a hM.length d],cd ad.iw A c cs,bh.map kq (Value.int .i64) r bF,cd (eT .i64) a d hM]:=by
 have L:=e.len
 obtain⟨M,o⟩:=e.Bp (i:=0) rfl
 obtain⟨I,p⟩:=e.Bp (i:=1) rfl
 have b0:=e.ok 0 _ _ rfl o
 have D:=e.ok 1 _ _ rfl p
 obtain⟨g,us,rfl,q,s⟩:=b0
 obtain⟨r,rfl,K,E,es,dO,u,G,H,ag⟩:=D
 simp only[aR,ar]at s m
 obtain⟨N,_,rfl,v,O,_,rfl,⟨e4,x,rfl⟩,J,_,rfl,z,rfl⟩:=s
 obtain⟨_,_,rfl,⟨g',e9,rfl⟩,_,_,rfl,rfl,rfl⟩:=m
 rw[o]at e9
 rw[p]at x
 cases e9
 cases x
 obtain⟨A,c,rfl⟩:=jU _ v
 obtain⟨a,d,rfl⟩:=jU _ z
 have B:∀k,aY X (tm cs bF hM) ρ w k->gT [] w k/\w.heap[k]? =w.heap[k]? :=λ k f=>⟨⟨by simp,f.2.2⟩,rfl⟩
 have j:(cd ad.iw A c cs).ok [] w:=iP (λ _ _=>aa9) ((bX (bc.ty 39)).law B v)
 have l:(cd (eT .i64) a d hM).ok [] w:=iP (λ _ _=>P5) ((bX (bc.ty 3)).law B z)
 have C:∀k b,w.heap[k]? =some b->k<w.heap.size:=λ k b f=>by rcases gw k w.heap.size with h |h;exact h;rw[hA h]at f;cases f
 obtain rfl:Bh=K:=eG E
 refine⟨g,A,c,r,a,d,rfl,bd.start [] [] w [] _ (by simp) (by simp[bG]) (by simp) (by simp[bG]) λ y hy=>?_⟩
 simp only[cU,hl,or_false]at hy
 rcases hy with rfl |rfl |rfl |rfl
 ·exact⟨by simp[bG],C _ _ q,iX (t:=115) (cs:=[.slice A cs.length c,.map (some r),.slice a hM.length d]) q⟩
 ·exact j
 ·exact⟨by simp[bG],C _ _ u,es,dO,u,ac_ G,H,ag⟩
 ·exact l
end
theorem ab'(F:Nat):(Ug F).gV.Dl aU 61:=by intro aH aJ ia h W au X ρ w vs a _ d;obtain⟨⟨⟩,n,⟨⟩⟩:=aH;obtain⟨⟨cs,⟨⟩,hM,⟨⟩⟩,bF,⟨⟩⟩:=aJ;have h:eV _ (ad.pq F ⟨cs,bF,hM⟩ n)=some ia:=h;obtain⟨r,f,rfl⟩:=cQ.1 h;have a:Mem bc W au X (tm cs bF hM) ρ w:=a;obtain⟨g,A,c,q,s,u,rfl,ap⟩:=Ux a d;refine⟨⟨.ret (.r 2 0),tm cs bF hM++[.r 121 0 0 (r:List (bc.El 121))],[]⟩,by kernel_rfl,?_⟩;refine(abv ap f).mono λ e w' ⟨gd,v,xs,i,b⟩=>?_;obtain⟨j,l⟩:=a.ang b (t:=121) rfl λ _ _ _ m _=>al7 m;refine⟨_,j,l,λ k o _=>b.bO.block k o (by simp),?_⟩;subst i;have p:ρ.length=2:=a.len;exact⟨trivial,_,by rw[eW (by omega),p];rfl,cS _,λ _=>rfl⟩
theorem aca(F:Nat):(Uh F).gV.Dl aU 60:=by intro aH aJ ia h W au X ρ w vs a _ i;obtain⟨⟨⟩,n,⟨⟩⟩:=aH;obtain⟨⟨cs,⟨⟩,hM,⟨⟩⟩,bF,⟨⟩⟩:=aJ;have h:eV _ (ad.wm F ⟨cs,bF,hM⟩ n)=some ia:=h;obtain⟨r,j,rfl⟩:=cQ.1 h;have a:Mem bc W au X (tm cs bF hM) ρ w:=a;obtain⟨g,A,c,q,s,u,rfl,ap⟩:=Ux a i;refine⟨⟨.ret (.u [.r 2 0,.r 3 0]),tm cs bF hM++[.r 9 0 0 (r.1 :List (bc.El 9)),.r 102 0 0 (r.2 :List (bc.El 102))],[]⟩,by kernel_rfl,?_⟩;refine(abw ap j).mono λ e w' ⟨gd,v,xs,x,y,ys,l,d⟩=>?_;obtain⟨m,o⟩:=a.anh d (t:=9) (t':=102) rfl (λ _ _ _ b _=>al8 b) rfl λ _ _ _ b _=>al9 b;refine⟨_,m,o,λ k p _=>d.bO.block k p (by simp),?_⟩;subst l;have f:ρ.length=2:=a.len;refine⟨_,rfl,_,_,rfl,⟨trivial,_,by rw[eW (by omega),f];rfl,cS _,λ _=>rfl⟩,_,_,rfl,⟨trivial,_,by rw[eW (by omega),f];rfl,cS _,λ _=>rfl⟩,rfl⟩
theorem aa2:hx.dR:=⟨⟨λ g h e=>(by cases e),λ g h e=>(by cases e)⟩,λ g fn c _ _ _=>n3 (λ _=>rfl) c⟩
theorem abo(F:Nat):(Di F).dR:=((akm nN (akl nN (akk nN (akj nN aa2)))).oR (f:=60) (by kernel_rfl) λ ys bl r a=>H5 sE (aca F) ys bl r (yX a)).oR (f:=61) (by kernel_rfl) λ ys bl r a=>H5 sE (ab' F) ys bl r (yX a)
end Go.Proofs.YtifhjkbiiekamaaGreatDoor
namespace a9
open Go Go.RowKit aw ad
structure a2 (E:Env) where
 t:dM E
 ok:cJ E->t.dR
 eg:iA E
section
variable{E:Env}
def a2.rt(s:a2 E)(f:Nat)(c:hg E.T)(a:c.Eq E s.t.a4 s.t.LE f)(b:eE E.b3 f=true:=by kernel_rfl):a2 E:=⟨s.t.f f (c.run E),λ h=>(s.ok h).rt h s.eg b a,s.eg⟩
def a2.z_(s:a2 E)(f:Nat)(c:hg E.T)(a:c.Eq E s.t.a4 s.t.LE f)(b:eE E.b3 f=true:=by kernel_rfl):a2 E:=⟨s.t.z_ f c,λ h=>(s.ok h).ad' h s.eg b a,s.eg⟩
def a2.fn(s:a2 E)(f:Nat)(c:e6 E.T)(a:c.Eq E s.t.a4 s.t.LE f)(b:eE E.b3 f=true:=by kernel_rfl):a2 E:=⟨s.t.f f (c.run E),λ h=>(s.ok h).fn h s.eg b a,s.eg⟩
def a2.iZ(s:a2 E)(f:Nat)(c:ju E.T)(a:c.Eq E s.t.a4 s.t.LE f)(b:eE E.b3 f=true:=by kernel_rfl):a2 E:=⟨s.t.f f (c.run E),λ h=>(s.ok h).iZ h s.eg b a,s.eg⟩
def a2.add(s:a2 E)(f:Nat)(r:List (aE E.T.El)->List (az E.T.El)->D (eX E.T.El))(hc:jt E f r)(a:eE E.b3 f=true:=by kernel_rfl):a2 E:=⟨s.t.f f r,λ h=>(s.ok h).oR a hc,s.eg⟩
def a2.b4(s:a2 E)(g i F:Nat)(c:bN E.T)(a:c.wi.mv E s.t.a4 (s.t.LE g) (ky E.P g) i (oT E.P g i))(I:tM E.P g i=true:=by kernel_rfl):a2 E:=⟨s.t.l g i (c.run E F),λ h=>(s.ok h).b4 h s.eg I a F,s.eg⟩
def a2.LS(s:a2 E)(g i F:Nat)(c:hb E.T)(a:c.Eq E s.t.a4 (s.t.LE g) (ky E.P g) i (oT E.P g i))(I:tM E.P g i=true:=by kernel_rfl):a2 E:=⟨s.t.l g i (c.run E F),λ h=>(s.ok h).LS h s.eg I a F,s.eg⟩
end
end a9
