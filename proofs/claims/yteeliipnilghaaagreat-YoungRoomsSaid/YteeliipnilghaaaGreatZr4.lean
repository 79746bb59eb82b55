/- Part 4 of the proof that is ended in the last text: small logic, what the functions compute, walks, plain laws. -/
import Derived.Test.YteeliipnilghaaaGreatZr3
namespace bK
open Go Go.RowKit ay I
structure bS (T:b_) where
 bI:List dy
 pbs:List cf
 ek:List dy
 dm:List cf
 R:Type
 fn:dv T.El bI × cP T.El pbs->Option R
 kD:dv T.El bI × cP T.El pbs->R->dv T.El ek × cP T.El dm
def bS.gF {T:b_} (c:bS T):fc T:=⟨c.bI,c.pbs,c.ek,c.dm,fun d=>(c.fn d).map (c.kD d)⟩
def bS.run (E:Env) (c:bS E.T) (ys:List (aK E.T.El)) (bl:List (aI E.T.El)):D (fH E.T.El):=match gG [] c.bI c.pbs bl ys with
 | (cg,dq)=>match iH c.pbs c.dm,hM cg [] false c.bI c.pbs dq with
   | true,some (d,sel)=>.op (c.fn d) fun r=>.ok ⟨.ret (mU (fv (hD sel cg.length) (eQ cg sel c.dm) c.ek (c.kD d r).1)),fq cg sel c.dm (c.kD d r).2,sel⟩
   | _,_=>.no
def bS.aeo {T:b_} (c:bS T) (d:dv T.El c.bI × cP T.El c.pbs) (r:c.R):dv T.El c.ek × cP T.El c.dm:=c.kD d r
def bS.Eq (E:Env) (aM:e6 E) (LE:jP E) (f:Nat) (c:bS E.T):Prop:=∀ (av:dv E.T.El c.bI) (aE:cP E.T.El c.pbs),(lx E aM LE f (fv id (cK false c.pbs) c.bI av) (b4 id (cK false c.pbs) false c.pbs aE)).run c.gF.fin=(c.fn (av,aE)).map (c.aeo (av,aE))
structure fp (T:b_) (bI:List dy) (pbs:List cf) where
 w:ji
 R:Type
 kD:dv T.El bI × cP T.El pbs->R->FB T.El w
@[reducible] def CB {T:b_} {bI:List dy} {pbs:List cf}:List (fp T bI pbs)->Type
  | []=>Empty
  | [w]=>w.R
  | w::v::r=>w.R ⊕ CB (v::r)
@[reducible] def Fa {T:b_} {bI:List dy} {pbs:List cf}:List (fp T bI pbs)->List ji
  | []=>[]
  | w::r=>w.w::Fa r
def bY {T:b_} {bI:List dy} {pbs:List cf} (d:dv T.El bI × cP T.El pbs):(ws:List (fp T bI pbs))->CB ws->rW T.El (Fa ws)
 | [],r=>r.elim
 | [w],r=>w.kD d r
 | w::v::ws,r=>match r with
   | .inl a=>.inl (w.kD d a)
   | .inr b=>.inr (bY d (v::ws) b)
structure a5 (T:b_) where
 fQ:List Nat
 bI:List dy
 pbs:List cf
 ws:List (fp T bI pbs)
 fn:Nat->dv T.El bI × cP T.El pbs->Option (CB ws)
def a5.bU {T:b_} (c:a5 T):h3 T:=⟨c.fQ,c.bI,c.pbs,Fa c.ws,fun k d=>(c.fn k d).map fun r=>bY d c.ws r⟩
def Pg (E:Env) {bI:List dy} {pbs:List cf} (bl:List (aI E.T.El)) (sel us:List Nat) (d:dv E.T.El bI × cP E.T.El pbs):(ws:List (fp E.T bI pbs))->Option (CB ws)->D (c5 E.T.El)
 | [],_=>.no
 | [w],o=>.op o fun r=>Ir E bl sel us w.w (w.kD d r)
 | w::v::ws,o=>.pF o (fun r=>Ir E bl sel us w.w (w.kD d r)) (fun q=>Pg E bl sel us d (v::ws) (some q))
def a5.run (E:Env) (F:Nat) (c:a5 E.T) (s:eX E.T.El):D (c5 E.T.El):=match n5 E s.bl s.f [] (c.fQ.map .tmp) with
 | some ys=>match gG [] c.bI c.pbs s.bl ys with
   | (cg,dq)=>match Ev c.pbs (Fa c.ws) && (iH c.pbs c.pbs && pu c.pbs c.pbs),hM cg [] false c.bI c.pbs dq with
     | true,some (d,sel)=>Pg E cg sel s.ws d c.ws (c.fn F d)
     | _,_=>.no
 | none=>.no
noncomputable def a2.CY {E:Env} (t:a2 E) (g:Nat) (c:bS E.T):a2 E:=t.f g fun ys bl=>match c.gF.fit E ys bl with
 | true=>c.run E ys bl
 | false=>t.aM g ys bl
noncomputable def a2.Ol {E:Env} (t:a2 E) (g i:Nat) (c:a5 E.T) (F:Nat):a2 E:=t.l g i fun s=>match c.bU.fit E s with
 | true=>c.run E F s
 | false=>match t.LE g i with
   | some h=>h s
   | none=>.no
structure xn (T:b_) (bI:List dy) (pbs:List cf) where
 w:jS
 R:Type
 kD:dv T.El bI × cP T.El pbs->R->xc T.El w
@[reducible] def CA {T:b_} {bI:List dy} {pbs:List cf}:List (xn T bI pbs)->Type
  | []=>Empty
  | [w]=>w.R
  | w::v::r=>w.R ⊕ CA (v::r)
@[reducible] def ES {T:b_} {bI:List dy} {pbs:List cf}:List (xn T bI pbs)->List jS
  | []=>[]
  | w::r=>w.w::ES r
def xI {T:b_} {bI:List dy} {pbs:List cf} (d:dv T.El bI × cP T.El pbs):(ws:List (xn T bI pbs))->CA ws->rV T.El (ES ws)
 | [],r=>r.elim
 | [w],r=>w.kD d r
 | w::v::ws,r=>match r with
   | .inl a=>.inl (w.kD d a)
   | .inr b=>.inr (xI d (v::ws) b)
structure mh (T:b_) where
 bI:List dy
 pbs:List cf
 ws:List (xn T bI pbs)
 fn:dv T.El bI × cP T.El pbs->Option (CA ws)
def mh.iy {T:b_} (c:mh T):jd T:=⟨c.bI,c.pbs,ES c.ws,fun d=>(c.fn d).map fun r=>xI d c.ws r⟩
def QF (E:Env) {bI:List dy} {pbs:List cf} (bl:List (aI E.T.El)) (sel:List Nat) (d:dv E.T.El bI × cP E.T.El pbs):(ws:List (xn E.T bI pbs))->Option (CA ws)->D (fH E.T.El)
 | [],_=>.no
 | [w],o=>.op o fun r=>EQ E bl sel w.w (w.kD d r)
 | w::v::ws,o=>.pF o (fun r=>EQ E bl sel w.w (w.kD d r)) (fun q=>QF E bl sel d (v::ws) (some q))
def mh.run (E:Env) (c:mh E.T) (ys:List (aK E.T.El)) (bl:List (aI E.T.El)):D (fH E.T.El):=match gG [] c.bI c.pbs bl ys with
 | (cg,dq)=>match Eu c.pbs (ES c.ws),hM cg [] false c.bI c.pbs dq with
   | true,some (d,sel)=>QF E cg sel d c.ws (c.fn d)
   | _,_=>.no
def mh.Eq (E:Env) (aM:e6 E) (LE:jP E) (f:Nat) (c:mh E.T):Prop:=∀ (av:dv E.T.El c.bI) (aE:cP E.T.El c.pbs),(lx E aM LE f (fv id (cK false c.pbs) c.bI av) (b4 id (cK false c.pbs) false c.pbs aE)).run c.iy.fin=(c.fn (av,aE)).map fun r=>xI (av,aE) c.ws r
def jF (T:b_) (t b8:Nat):bS T:=⟨[.p (.l t)],[],[.p (.R 0)],[.r t false],List (T.El t),fun d=>cq b8 [] d.1.1,fun _ r=>(((),()),(r,()))⟩
section
variable {E:Env} {t:a2 E}
theorem wN {c:bS E.T} {ys:List (aK E.T.El)} {bl:List (aI E.T.El)} {r:fH E.T.El} (h:(c.run E ys bl).out r):(c.gF.run E ys bl).out r:=by
 unfold bS.run at h
 unfold fc.run bS.gF
 dsimp only
 cases ag:gG [] c.bI c.pbs bl ys with
 | mk cg dq=>
 rw [ag] at h
 dsimp only at h ⊢
 split at h
 · rename_i J aa
   rw [J,aa]
   obtain ⟨q,ao,aq⟩:=h
   exact ⟨_,by rw [ao];rfl,aq⟩
 · exact h.elim
theorem aaO {bI:List dy} {pbs:List cf} {bl:List (aI E.T.El)} {sel us:List Nat} {d:dv E.T.El bI × cP E.T.El pbs}:∀ {ws:List (fp E.T bI pbs)} {o:Option (CB ws)} {r:c5 E.T.El},(Pg E bl sel us d ws o).out r->(yy E bl sel us (Fa ws) (o.map (bY d ws))).out r
 | [],o,r,h=>h.elim
 | [w],o,r,h=>by
   obtain ⟨q,ao,aq⟩:=h
   exact ⟨_,by rw [ao];rfl,aq⟩
 | w::v::ws,o,r,h=>by
   rcases h with ⟨q,ao,aq⟩ | ⟨q,ao,aq⟩
   · exact .inl ⟨_,by rw [ao];rfl,aq⟩
   · exact .inr ⟨_,by rw [ao];rfl,aaO aq⟩
theorem ZW {c:a5 E.T} {F:Nat} {s:eX E.T.El} {r:c5 E.T.El} (h:(c.run E F s).out r):(c.bU.run E F s).out r:=by
 unfold a5.run at h
 unfold h3.run a5.bU
 dsimp only
 split at h
 · rename_i ys hy
   rw [hy]
   dsimp only
   cases ag:gG [] c.bI c.pbs s.bl ys with
   | mk cg dq=>
   rw [ag] at h
   dsimp only at h ⊢
   split at h
   · rename_i J aa
     rw [J,aa]
     exact aaO h
   · exact h.elim
 · exact h.elim
theorem abq {bI:List dy} {pbs:List cf} {bl:List (aI E.T.El)} {sel:List Nat} {d:dv E.T.El bI × cP E.T.El pbs}:∀ {ws:List (xn E.T bI pbs)} {o:Option (CA ws)} {r:fH E.T.El},(QF E bl sel d ws o).out r->(yF E bl sel (ES ws) (o.map fun r=>xI d ws r)).out r
 | [],o,r,h=>h.elim
 | [w],o,r,h=>by
   obtain ⟨q,ao,aq⟩:=h
   exact ⟨_,by rw [ao];rfl,aq⟩
 | w::v::ws,o,r,h=>by
   rcases h with ⟨q,ao,aq⟩ | ⟨q,ao,aq⟩
   · exact .inl ⟨_,by rw [ao];rfl,aq⟩
   · exact .inr ⟨_,by rw [ao];rfl,abq aq⟩
theorem avq {c:mh E.T} {ys:List (aK E.T.El)} {bl:List (aI E.T.El)} {r:fH E.T.El} (h:(c.run E ys bl).out r):(c.iy.run E ys bl).out r:=by
 unfold mh.run at h
 unfold jd.run mh.iy
 dsimp only
 cases ag:gG [] c.bI c.pbs bl ys with
 | mk cg dq=>
 rw [ag] at h
 dsimp only at h ⊢
 split at h
 · rename_i J aa
   rw [J,aa]
   exact abq h
 · exact h.elim
theorem a2.ax.abw (ah:aZ E) (fs:E.gm= []) (h:t.ax) {f:Nat} (ag:gL E.cM f=true) {c:mh E.T} (he:c.Eq E t.aM t.LE f):(t.f f (c.run E)).ax:=
 h.p4 ag fun ys bl r al=>S3 ah (nx ah h.ce h.le 100) h.le fs (c:=c.iy) (fun av aE _ aN=>(he av aE).trans aN) ys bl r (avq al)
theorem a2.ax.rt (ah:aZ E) (fs:E.gm= []) (h:t.ax) {f:Nat} (ag:gL E.cM f=true) {c:bS E.T} (he:c.Eq E t.aM t.LE f):(t.f f (c.run E)).ax:=
 h.p4 ag fun ys bl r al=>xG ah (nx ah h.ce h.le 100) h.le fs (c:=c.gF) (fc.Eq.v he) ys bl r (wN al)
theorem a2.ax.b7 (ah:aZ E) (fs:E.gm= []) (h:t.ax) {g i:Nat} (J:wG E.P g i=true) {c:a5 E.T} (he:c.bU.bP E t.aM (t.LE g) (bR E.P g) i (bT E.P g i)) (F:Nat):(t.l g i (c.run E F)).ax:=
 h.R9 ah J fun aA s r al=>h.U2 ah fs J he F aA s r (ZW al)
theorem a2.ax.Gy (ah:aZ E) (fs:E.gm= []) (h:t.ax) {f:Nat} (ag:gL E.cM f=true) {c:bS E.T} (he:c.Eq E t.aM t.LE f):(t.CY f c).ax:=by
 refine h.p4 ag fun ys bl r al=>?_
 split at al
 · exact xG ah (nx ah h.ce h.le 100) h.le fs (c:=c.gF) (fc.Eq.v he) ys bl r (wN al)
 · exact ((nx ah h.ce h.le 100).ok f ys bl r al).2
theorem a2.ax.ZV (ah:aZ E) (fs:E.gm= []) (h:t.ax) {g i:Nat} (J:wG E.P g i=true) {c:a5 E.T} (he:c.bU.bP E t.aM (t.LE g) (bR E.P g) i (bT E.P g i)) (F:Nat):(t.Ol g i c F).ax:=by
 refine h.R9 ah J fun aA s r al=>?_
 split at al
 · exact h.U2 ah fs J he F aA s r (ZW al)
 · split at al
   · rename_i q a1
     have xX:=J
     unfold wG at J
     split at J
     · rename_i b ai
       have MI:bT E.P g i=b:=by unfold bT;rw [ai]
       rw [MI]
       unfold vf at ai
       split at ai
       · rename_i fn gK
         split at ai
         · rename_i xC mx
           have hold:=h.le g fn xC aA gK mx
           have aS:bR E.P g=fn.ntmps:=by unfold bR;rw [gK]
           rw [aS]
           exact tl a1 hold ai s r al
         · simp [eZ] at ai
       · simp [eZ] at ai
     · cases J
   · exact al.elim
theorem a2.ax.EJ (ah:aZ E) (fs:E.gm= []) (h:t.ax) {f l0 b8:Nat} (ag:gL E.cM f=true)
 (aY:(lx E t.aM t.LE f [.p (.slice none 0 0)] []).run (jF E.T l0 b8).gF.fin=some (((),()),([],())))
 (J:∀ (a:Addr) (c:Nat),(lx E t.aM t.LE f [.p (.slice (some a) 0 c)] []).run (jF E.T l0 b8).gF.fin=some (((),()),([],())))
 (aa:∀ (d:E.T.El l0) (l:List (E.T.El l0)),(lx E t.aM t.LE f [.s l0 (d::l)] []).run (jF E.T l0 b8).gF.fin=(cq b8 [] (d::l)).bind fun r=>some (((),()),(r,()))):(t.f f ((jF E.T l0 b8).run E)).ax:=by
 refine h.p4 ag fun ys bl r al=>xG ah (nx ah h.ce h.le 100) h.le fs (c:=(jF E.T l0 b8).gF) (fun av aE F w ρ bl vs aj=>?_) ys bl r (wN al)
 obtain ⟨l,⟨⟩⟩:=av
 have Ng:cq b8 ([]:List (E.T.El l0)) []=some []:=by simp [cq]
 have hm:∀ l:List (E.T.El l0),(jF E.T l0 b8).gF.fn ((l,()),aE)=(cq b8 [] l).bind fun r=>some (((),()),(r,())):=fun l=>by
  show Option.map _ (cq b8 [] l)=_
  cases cq b8 ([]:List (E.T.El l0)) l <;> rfl
 cases l with
 | cons d l=>exact ⟨_,aj,fun r aN=>(aa d l).trans ((hm _).symm.trans aN)⟩
 | nil=>
   have gr:bc E.T F w ρ bl [.s l0 []] vs:=aj
   simp only [bc,aB] at gr
   obtain ⟨u,us,rfl,az,rfl⟩:=gr
   obtain ⟨A,c,e,ao,aq,a0,_⟩:=az
   simp only [List.cons.injEq,and_true] at e
   subst e
   have gK:=hm []
   rw [Ng] at gK
   cases A with
   | none=>
     rw [a0 rfl]
     exact ⟨[.p (.slice none 0 0)],by simp [bc,aB],fun r aN=>aY.trans (gK.symm.trans aN)⟩
   | some a=>exact ⟨[.p (.slice (some a) 0 c)],by simp [bc,aB],fun r aN=>(J a c).trans (gK.symm.trans aN)⟩
end
end bK
namespace I
def a4 {ρ α:Type} (o:Option (Way ρ α)):Option (α ⊕ ρ):=match o with
 | none=>none
 | some (.go a)=>some (.inl a)
 | some (.out r)=>some (.inr r)
noncomputable def c2 {α:Type} (p:Prop) (o:Option α):Option α:=@ite _ p (Classical.propDecidable p) o none
theorem dg {α:Type} {p:Prop} {o:Option α} (h:p):c2 p o=o:=by unfold c2;exact if_pos h
theorem df {α:Type} {p:Prop}:c2 p (none:Option α)=none:=by unfold c2;split <;> rfl
theorem dI {α:Type} {p:Prop} {o:Option α} {r:α} (h:c2 p o=some r):p/\o=some r:=by
 unfold c2 at h
 split at h
 · rename_i aP
   exact ⟨aP,h⟩
 · cases h
section
variable {α β cA m8 ρ σ:Type}
theorem aoG (o:Option (Way ρ α)) (k:α->Option (Way ρ β)):cY o k=dM (a4 o) k (fun r=>some (.out r)):=by
 cases o with
 | none=>rfl
 | some y=>cases y <;> rfl
theorem aoR (o:Option (Way ρ α)) (k:α->Option ρ):cu o k=dM (a4 o) k (fun r=>some r):=by
 cases o with
 | none=>rfl
 | some y=>cases y <;> rfl
theorem aoY (a:α):a4 (some (.go a):Option (Way ρ α))=some (.inl a):=rfl
theorem aoZ (r:ρ):a4 (some (.out r):Option (Way ρ α))=some (.inr r):=rfl
theorem ao0:a4 (none:Option (Way ρ α))=none:=rfl
theorem ao1 (o:Option cA) (f:cA->Option (Way ρ α)):a4 (o.bind f)=o.bind fun x=>a4 (f x):=by cases o <;> rfl
theorem ao2 (c:Bool) (x y:Option (Way ρ α)):a4 (cond c x y)=cond c (a4 x) (a4 y):=by cases c <;> rfl
theorem ao3 (o:Option (cA ⊕ m8)) (f:cA->Option (Way ρ α)) (g:m8->Option (Way ρ α)):a4 (dM o f g)=dM o (fun x=>a4 (f x)) (fun x=>a4 (g x)):=by
 cases o with
 | none=>rfl
 | some y=>cases y <;> rfl
theorem ao4 (a:α) (k:α->Option cA) (l:β->Option cA):dM (some (.inl a)) k l=k a:=rfl
theorem aoH (b:β) (k:α->Option cA) (l:β->Option cA):dM (some (.inr b)) k l=l b:=rfl
theorem aoI (k:α->Option cA) (l:β->Option cA):dM none k l=none:=rfl
theorem aoJ (o:Option m8) (f:m8->Option (α ⊕ β)) (k:α->Option cA) (l:β->Option cA):dM (o.bind f) k l=o.bind fun x=>dM (f x) k l:=by cases o <;> rfl
theorem aoK (c:Bool) (x y:Option (α ⊕ β)) (k:α->Option cA) (l:β->Option cA):dM (cond c x y) k l=cond c (dM x k l) (dM y k l):=by cases c <;> rfl
theorem aoL (o:Option (ρ ⊕ σ)) (f:ρ->Option (α ⊕ β)) (g:σ->Option (α ⊕ β)) (k:α->Option cA) (l:β->Option cA):dM (dM o f g) k l=dM o (fun x=>dM (f x) k l) (fun x=>dM (g x) k l):=by
 cases o with
 | none=>rfl
 | some y=>cases y <;> rfl
theorem aoM (o:Option α) (f:α->Option β) (g:β->Option cA):(o.bind f).bind g=o.bind fun x=>(f x).bind g:=by cases o <;> rfl
theorem aoN (a:α) (f:α->Option β):(some a).bind f=f a:=rfl
theorem aoO (f:α->Option β):Option.bind none f=none:=rfl
theorem aoP (c:Bool) (x y:Option α) (f:α->Option β):(cond c x y).bind f=cond c (x.bind f) (y.bind f):=by cases c <;> rfl
theorem aoQ (o:Option (ρ ⊕ σ)) (k:ρ->Option α) (l:σ->Option α) (f:α->Option β):(dM o k l).bind f=dM o (fun x=>(k x).bind f) (fun x=>(l x).bind f):=by
 cases o with
 | none=>rfl
 | some y=>cases y <;> rfl
theorem aoS (o:Option α) (f:α->Option β) (g:β->cA):(o.bind f).map g=o.bind fun x=>(f x).map g:=by cases o <;> rfl
theorem aoT (c:Bool) (x y:Option α) (g:α->cA):(cond c x y).map g=cond c (x.map g) (y.map g):=by cases c <;> rfl
theorem aoU (a:α) (g:α->cA):(some a).map g=some (g a):=rfl
theorem aoV (g:α->cA):Option.map g none=none:=rfl
theorem aoW (o:Option (ρ ⊕ σ)) (k:ρ->Option α) (l:σ->Option α) (g:α->cA):(dM o k l).map g=dM o (fun x=>(k x).map g) (fun x=>(l x).map g):=by
 cases o with
 | none=>rfl
 | some y=>cases y <;> rfl
theorem aoX {cL:Type} (k:cL) (b:cL->Option α):join k b=b k:=rfl
def iG {α β:Type} (o:Option (Option α × β)):Option ((α × β) ⊕ β):=match o with
 | none=>none
 | some (some v,e)=>some (.inl (v,e))
 | some (none,e)=>some (.inr e)
theorem aac (o:Option (Option α × β)) (f:Option α × β->Option cA):o.bind f=dM (iG o) (fun p=>f (some p.1,p.2)) (fun e=>f (none,e)):=by
 rcases o with _ | ⟨_ | v,e⟩ <;> rfl
theorem aad (v:α) (e:β):iG (some (some v,e))=some (.inl (v,e)):=rfl
theorem aae (e:β):iG (some ((none:Option α),e))=some (.inr e):=rfl
theorem aaf:iG (none:Option (Option α × β))=none:=rfl
theorem aag (o:Option cA) (f:cA->Option (Option α × β)):iG (o.bind f)=o.bind fun x=>iG (f x):=by cases o <;> rfl
theorem aah (c:Bool) (x y:Option (Option α × β)):iG (cond c x y)=cond c (iG x) (iG y):=by cases c <;> rfl
theorem aai (o:Option (cA ⊕ m8)) (f:cA->Option (Option α × β)) (g:m8->Option (Option α × β)):iG (dM o f g)=dM o (fun x=>iG (f x)) (fun x=>iG (g x)):=by
 cases o with
 | none=>rfl
 | some y=>cases y <;> rfl
theorem aoD (b x:Bool):cond b (some x) (some false)=some (b && x):=by cases b <;> rfl
theorem aoE {α:Type} (a b:Bool) (x y:Option α):cond a (cond b x y) y=cond (a && b) x y:=by cases a <;> rfl
theorem OS {α:Type} (a b:Bool) (x y:Option α):cond a x (cond b x y)=cond (a || b) x y:=by cases a <;> rfl
theorem a':(∀ {α β ρ:Type} (o:Option (Way ρ α)) (k:α->Option (Way ρ β)),cY o k=dM (a4 o) k (fun r=>some (.out r)))/\(∀ {α ρ:Type} (o:Option (Way ρ α)) (k:α->Option ρ),cu o k=dM (a4 o) k (fun r=>some r))/\(∀ {α ρ:Type} (a:α),a4 (some (.go a):Option (Way ρ α))=some (.inl a))/\(∀ {α ρ:Type} (r:ρ),a4 (some (.out r):Option (Way ρ α))=some (.inr r))/\(∀ {α ρ:Type},a4 (none:Option (Way ρ α))=none)/\(∀ {α cA ρ:Type} (o:Option cA) (f:cA->Option (Way ρ α)),a4 (o.bind f)=o.bind fun x=>a4 (f x))/\(∀ {α ρ:Type} (c:Bool) (x y:Option (Way ρ α)),a4 (cond c x y)=cond c (a4 x) (a4 y))/\(∀ {α cA m8 ρ:Type} (o:Option (cA ⊕ m8)) (f:cA->Option (Way ρ α)) (g:m8->Option (Way ρ α)),a4 (dM o f g)=dM o (fun x=>a4 (f x)) (fun x=>a4 (g x)))/\(∀ {α β cA:Type} (a:α) (k:α->Option cA) (l:β->Option cA),dM (some (.inl a)) k l=k a)/\(∀ {α β cA:Type} (b:β) (k:α->Option cA) (l:β->Option cA),dM (some (.inr b)) k l=l b)/\(∀ {α β cA:Type} (k:α->Option cA) (l:β->Option cA),dM none k l=none)/\(∀ {α β cA m8:Type} (o:Option m8) (f:m8->Option (α ⊕ β)) (k:α->Option cA) (l:β->Option cA),dM (o.bind f) k l=o.bind fun x=>dM (f x) k l)/\(∀ {α β cA:Type} (c:Bool) (x y:Option (α ⊕ β)) (k:α->Option cA) (l:β->Option cA),dM (cond c x y) k l=cond c (dM x k l) (dM y k l))/\(∀ {α β cA ρ σ:Type} (o:Option (ρ ⊕ σ)) (f:ρ->Option (α ⊕ β)) (g:σ->Option (α ⊕ β)) (k:α->Option cA) (l:β->Option cA),dM (dM o f g) k l=dM o (fun x=>dM (f x) k l) (fun x=>dM (g x) k l))/\(∀ {α β cA:Type} (o:Option α) (f:α->Option β) (g:β->Option cA),(o.bind f).bind g=o.bind fun x=>(f x).bind g)/\(∀ {α β:Type} (a:α) (f:α->Option β),(some a).bind f=f a)/\(∀ {α β:Type} (f:α->Option β),Option.bind none f=none)/\(∀ {α β:Type} (c:Bool) (x y:Option α) (f:α->Option β),(cond c x y).bind f=cond c (x.bind f) (y.bind f))/\(∀ {α β ρ σ:Type} (o:Option (ρ ⊕ σ)) (k:ρ->Option α) (l:σ->Option α) (f:α->Option β),(dM o k l).bind f=dM o (fun x=>(k x).bind f) (fun x=>(l x).bind f))/\(∀ {α β cA:Type} (o:Option α) (f:α->Option β) (g:β->cA),(o.bind f).map g=o.bind fun x=>(f x).map g)/\(∀ {α cA:Type} (c:Bool) (x y:Option α) (g:α->cA),(cond c x y).map g=cond c (x.map g) (y.map g))/\(∀ {α cA:Type} (a:α) (g:α->cA),(some a).map g=some (g a))/\(∀ {α cA:Type} (g:α->cA),Option.map g none=none)/\(∀ {α cA ρ σ:Type} (o:Option (ρ ⊕ σ)) (k:ρ->Option α) (l:σ->Option α) (g:α->cA),(dM o k l).map g=dM o (fun x=>(k x).map g) (fun x=>(l x).map g))/\(∀ {α:Type} {cL:Type} (k:cL) (b:cL->Option α),join k b=b k):=⟨aoG,aoR,aoY,aoZ,ao0,ao1,ao2,ao3,ao4,aoH,aoI,aoJ,aoK,aoL,aoM,aoN,aoO,aoP,aoQ,aoS,aoT,aoU,aoV,aoW,aoX⟩
end
end I
namespace bK
open Go Go.RowKit ay I
theorem a5.b5 {E:Env} {aM:e6 E} {LE:l_ E} {n id:Nat} {body:Code} {c:a5 E.T} (aY:∀ d,c.fn 0 d=none)
 (J:∀ k (av:dv E.T.El c.bI) (aE:cP E.T.El c.pbs) q,c.fn (k+ 1) (av,aE)=some q->(den E aM LE n body (sZ E c.bU av aE)).run (c.bU.fin E id k)=(c.fn (k+ 1) (av,aE)).map fun r=>bY (av,aE) c.ws r):c.bU.bP E aM LE n id body:=
 ⟨fun d=>by exact (congrArg (Option.map _) (aY d)).trans rfl,fun k av aE r h=>by
  obtain ⟨q,ao,_⟩:=Option.map_eq_some_iff.1 h
  exact (J k av aE q ao).trans h⟩
end bK
namespace Go.Proofs.YteeliipnilghaaaGreat
open Go Go.RowKit ay I bK
noncomputable def ad:Env:=⟨Tryz.prog,aQ,[],false,(List.range 174).drop 2,5,fun l=>l⟩
noncomputable def pN:Env:=⟨Tryz.prog,aQ,[],true,(List.range 174).drop 2,5,fun l=>l⟩
noncomputable def hn:a2 ad:=⟨[],[]⟩
theorem apc (ah:aZ ad) (h:hn.ax):(hn.f 37 ((jF ad.T 3 8).run ad)).ax:=h.EJ ah rfl rfl (by kernel_rfl) (fun a c=>by kernel_rfl) fun d l=>by kernel_rfl
noncomputable def uO:a2 ad:=hn.f 37 ((jF ad.T 3 8).run ad)
theorem apd (ah:aZ ad) (h:uO.ax):(uO.f 108 ((jF ad.T 136 40).run ad)).ax:=h.EJ ah rfl rfl (by kernel_rfl) (fun a c=>by kernel_rfl) fun d l=>by kernel_rfl
noncomputable def na:a2 ad:=uO.f 108 ((jF ad.T 136 40).run ad)
theorem ape (ah:aZ ad) (h:na.ax):(na.f 109 ((jF ad.T 131 128).run ad)).ax:=h.EJ ah rfl rfl (by kernel_rfl) (fun a c=>by kernel_rfl) fun d l=>by kernel_rfl
noncomputable def JZ:a2 ad:=na.f 109 ((jF ad.T 131 128).run ad)
theorem apf (ah:aZ ad) (h:JZ.ax):(JZ.f 110 ((jF ad.T 128 24).run ad)).ax:=h.EJ ah rfl rfl (by kernel_rfl) (fun a c=>by kernel_rfl) fun d l=>by kernel_rfl
noncomputable def J0:a2 ad:=JZ.f 110 ((jF ad.T 128 24).run ad)
theorem apg (ah:aZ ad) (h:J0.ax):(J0.f 111 ((jF ad.T 157 40).run ad)).ax:=h.EJ ah rfl rfl (by kernel_rfl) (fun a c=>by kernel_rfl) fun d l=>by kernel_rfl
noncomputable def adj:a2 ad:=J0.f 111 ((jF ad.T 157 40).run ad)
end Go.Proofs.YteeliipnilghaaaGreat
namespace I
def e3 (dl:Int) (D8:Int) (Ef:Int):Option (Bool):=
 some ((decide (D8<=dl)) && (decide (dl<=Ef)))
def jt (dl:Int) (D8:Int) (Ef:Int):Option (Bool):=
 some ((decide (D8<=dl)) && (decide (dl<=Ef)))
def DX (a8:Int):Option (Bool):=
 some ((decide (a8= 3)) || (decide (a8= 4)))
def vS (mC:List UInt8):Nat->Int->Option (Way (Bool) (Unit))
 | 0,_=>none
 | bW+ 1,tK=>
   cond (decide (tK <(mC.length:Int))) ((idx mC tK).bind fun w4=>
   cond (((((decide ((w4.toNat:Int) < 97)) || (decide (122 <(w4.toNat:Int)))) && ((decide ((w4.toNat:Int) < 65)) || (decide (90 <(w4.toNat:Int))))) && ((decide ((w4.toNat:Int) < 48)) || (decide (57 <(w4.toNat:Int))))) && (!decide ((w4.toNat:Int)= 95))) (some (.out false)) (vS mC bW (aX (tK+ 1)))) (some (.go ()))
def j6 (F:Nat) (s_:List UInt8):Option (Bool):=
 (bytesOf s_).bind fun mC=>
 cu (α:=Unit) (vS mC F 0) fun (_:Unit)=>
 some ((!decide (s_= [])) && (decide ((s_.length:Int)<= 20)))
def o6 (F:Nat) (a8:Kind):Option (Bool):=
 (DX a8.Kind).bind fun Qo=>
 cond (Qo) ((j6 F a8.ap).bind fun Qr=>
 some Qr) (some (((decide (a8.Kind= 1)) || (decide (a8.Kind= 2))) && (decide (a8.ap= []))))
def ng (s_:List UInt8):Nat->Int->Option (Way (Bool) (Unit))
 | 0,_=>none
 | bW+ 1,OE=>
   cond (decide (OE <(s_.length:Int))) ((idx s_ OE).bind fun u'=>
   cond (!(((((decide (97 <=(u'.toNat:Int))) && (decide ((u'.toNat:Int)<= 122))) || ((decide (65 <=(u'.toNat:Int))) && (decide ((u'.toNat:Int)<= 90)))) || ((decide (48 <=(u'.toNat:Int))) && (decide ((u'.toNat:Int)<= 57)))) || (decide ((u'.toNat:Int)= 95)))) (some (.out false)) (ng s_ bW (aX (OE+ 1)))) (some (.go ()))
def ky (F:Nat) (s_:List UInt8):Option (Bool):=
 cu (α:=Unit) (ng s_ F 0) fun (_:Unit)=>
 some ((decide (1 <=(s_.length:Int))) && (decide ((s_.length:Int)<= 20)))
def oD (F:Nat) (a8:Kind):Option (Bool):=
 cond ((decide (a8.Kind= 1)) || (decide (a8.Kind= 2))) (some (decide (a8.ap= []))) (cond ((decide (a8.Kind= 3)) || (decide (a8.Kind= 4))) ((ky F a8.ap).bind fun rn=>
 some rn) (some false))
end I
namespace I
def td (F:Nat) (m_:Method):Nat->Int->Option (Way (Int) (Unit))
 | 0,_=>none
 | bW+ 1,tR=>
   cond (decide (tR <(m_.cC.length:Int))) ((idx m_.cC tR).bind fun acJ=>
   (o6 F (⟨acJ.Kind,acJ.ap⟩:Kind)).bind fun aus=>
   cond (!aus) (some (.out 7)) (td F m_ bW (aX (tR+ 1)))) (some (.go ()))
def vV (F:Nat) (m_:Method):Nat->Int->Option (Way (Int) (Unit))
 | 0,_=>none
 | eo+ 1,wv=>
   cond (decide (wv <(m_.cF.length:Int))) ((idx m_.cF wv).bind fun Jt=>
   (j6 F Jt.ap).bind fun Qh=>
   cond (!Qh) (some (.out 1)) ((jt Jt.From 0 200).bind fun mW=>
   cond (!mW) (some (.out 3)) ((jt Jt.To 0 200).bind fun Qi=>
   cond (!Qi) (some (.out 3)) ((jt Jt.g6 0 200).bind fun Qj=>
   cond (!Qj) (some (.out 3)) (vV F m_ eo (aX (wv+ 1))))))) (some (.go ()))
def nM (F:Nat) (m_:Method):Nat->Int->Option (Way (Int) (Unit))
 | 0,_=>none
 | gM+ 1,jA=>
   cond (decide (jA <(m_.cF.length:Int))) ((idx m_.cF jA).bind fun Jv=>
   (j6 F Jv.ap).bind fun atU=>
   cond (!atU) (some (.out 1)) ((jt Jv.From 0 200).bind fun atW=>
   cond (!atW) (some (.out 3)) ((jt Jv.To 0 200).bind fun atX=>
   cond (!atX) (some (.out 3)) ((jt Jv.g6 0 200).bind fun atY=>
   cond (!atY) (some (.out 3)) (nM F m_ gM (aX (jA+ 1))))))) (some (.go ()))
def tc (F:Nat) (m_:Method):Option (Int):=
 (j6 F m_.Name).bind fun wK=>
 cond (!wK) (some 1) (cond (((decide (4 <(m_.cC.length:Int))) || (decide (200 <(m_.Code.length:Int)))) || (decide (4 <(m_.cF.length:Int)))) (some 2) ((jt m_.gh 0 10).bind fun hA=>
 cond (!hA) (some 3) ((jt m_.gf 0 10).bind fun wI=>
 cond (!wI) (some 3) (cu (α:=Unit) (td F m_ F 0) fun (_:Unit)=>
 cond (!decide ((⟨m_.Returns.Kind,m_.Returns.ap⟩:Kind)=(⟨0,[]⟩:Kind))) ((o6 F (⟨m_.Returns.Kind,m_.Returns.ap⟩:Kind)).bind fun aut=>
 cond (!aut) (some 7) (cu (α:=Unit) (vV F m_ F 0) fun (_:Unit)=>
 some 0)) (cu (α:=Unit) (nM F m_ F 0) fun (_:Unit)=>
 some 0)))))
def vT (F:Nat) (c_:ap):Nat->Int->Option (Way (Int) (Unit))
 | 0,_=>none
 | bW+ 1,jC=>
   cond (decide (jC <(c_.Fields.length:Int))) ((idx c_.Fields jC).bind fun RB=>
   (j6 F RB.Name).bind fun EI=>
   cond (!EI) (some (.out 1)) ((o6 F (⟨RB.Kind.Kind,RB.Kind.ap⟩:Kind)).bind fun EF=>
   cond (!EF) (some (.out 7)) (vT F c_ bW (aX (jC+ 1))))) (some (.go ()))
def vU (F:Nat) (c_:ap):Nat->Int->Option (Way (Int) (Unit))
 | 0,_=>none
 | eo+ 1,wv=>
   cond (decide (wv <(c_.bh.length:Int))) ((idx c_.bh wv).bind fun rI=>
   (tc F (⟨rI.Name,rI.Static,rI.cC,(⟨rI.Returns.Kind,rI.Returns.ap⟩:Kind),rI.gh,rI.gf,rI.Code,rI.cF⟩:Method)).bind fun mW=>
   cond (!decide (mW= 0)) (some (.out mW)) (vU F c_ eo (aX (wv+ 1)))) (some (.go ()))
def qJ (F:Nat) (c_:ap):Nat->Int->Option (Way (Int) (Unit))
 | 0,_=>none
 | gM+ 1,k3=>
   cond (decide (k3 <(c_.Fields.length:Int))) ((idx c_.Fields k3).bind fun Rv=>
   (j6 F Rv.Name).bind fun atL=>
   cond (!atL) (some (.out 1)) ((o6 F (⟨Rv.Kind.Kind,Rv.Kind.ap⟩:Kind)).bind fun atM=>
   cond (!atM) (some (.out 7)) (qJ F c_ gM (aX (k3+ 1))))) (some (.go ()))
def nL (F:Nat) (c_:ap):Nat->Int->Option (Way (Int) (Unit))
 | 0,_=>none
 | jx+ 1,jB=>
   cond (decide (jB <(c_.bh.length:Int))) ((idx c_.bh jB).bind fun rK=>
   (tc F (⟨rK.Name,rK.Static,rK.cC,(⟨rK.Returns.Kind,rK.Returns.ap⟩:Kind),rK.gh,rK.gf,rK.Code,rK.cF⟩:Method)).bind fun aa5=>
   cond (!decide (aa5= 0)) (some (.out aa5)) (nL F c_ jx (aX (jB+ 1)))) (some (.go ()))
def x_ (F:Nat) (c_:ap):Option (Int):=
 (j6 F c_.Name).bind fun wK=>
 cond (!wK) (some 1) (cond (!decide (c_.cU= [])) ((j6 F c_.cU).bind fun hA=>
 cond (!hA) (some 1) (cond ((decide (6 <(c_.Fields.length:Int))) || (decide (8 <(c_.bh.length:Int)))) (some 2) (cu (α:=Unit) (vT F c_ F 0) fun (_:Unit)=>
 cu (α:=Unit) (vU F c_ F 0) fun (_:Unit)=>
 some 0))) (cond ((decide (6 <(c_.Fields.length:Int))) || (decide (8 <(c_.bh.length:Int)))) (some 2) (cu (α:=Unit) (qJ F c_ F 0) fun (_:Unit)=>
 cu (α:=Unit) (nL F c_ F 0) fun (_:Unit)=>
 some 0)))
def ta (F:Nat) (bf:List ap):Nat->Int->Option (Way (Int) (Unit))
 | 0,_=>none
 | bW+ 1,tU=>
   cond (decide (tU <(bf.length:Int))) ((idx bf tU).bind fun Jx=>
   (x_ F (⟨Jx.Name,Jx.cU,Jx.Fields,Jx.bh⟩:ap)).bind fun aaZ=>
   cond (!decide (aaZ= 0)) (some (.out aaZ)) (ta F bf bW (aX (tU+ 1)))) (some (.go ()))
def x8 (F:Nat) (bf:List ap):Option (Int):=
 cond (decide (10 <(bf.length:Int))) (some 2) (cu (α:=Unit) (ta F bf F 0) fun (_:Unit)=>
 some 0)
def sf (F:Nat) (m_:Method):Nat->Int->Option (Way (Int) (Unit))
 | 0,_=>none
 | bW+ 1,OP=>
   cond (decide (OP <(m_.cC.length:Int))) ((idx m_.cC OP).bind fun ax7=>
   (oD F ax7).bind fun auo=>
   cond (!auo) (some (.out 7)) (sf F m_ bW (aX (OP+ 1)))) (some (.go ()))
def sg (F:Nat) (m_:Method):Nat->Int->Option (Way (Int) (Unit))
 | 0,_=>none
 | eo+ 1,OA=>
   cond (decide (OA <(m_.cF.length:Int))) ((idx m_.cF OA).bind fun Js=>
   (ky F Js.ap).bind fun atD=>
   cond (!atD) (some (.out 1)) ((e3 Js.From 0 200).bind fun atG=>
   cond (!atG) (some (.out 3)) ((e3 Js.To 0 200).bind fun atH=>
   cond (!atH) (some (.out 3)) ((e3 Js.g6 0 200).bind fun atI=>
   cond (!atI) (some (.out 3)) (sg F m_ eo (aX (OA+ 1))))))) (some (.go ()))
def sd (F:Nat) (m_:Method):Option (Int):=
 (ky F m_.Name).bind fun wK=>
 cond (!wK) (some 1) (cond (((decide (4 <(m_.cC.length:Int))) || (decide (200 <(m_.Code.length:Int)))) || (decide (4 <(m_.cF.length:Int)))) (some 2) ((e3 m_.gh 0 10).bind fun hA=>
 cond (!hA) (some 3) ((e3 m_.gf 0 10).bind fun wI=>
 cond (!wI) (some 3) (cu (α:=Unit) (sf F m_ F 0) fun (_:Unit)=>
 (oD F (⟨m_.Returns.Kind,m_.Returns.ap⟩:Kind)).bind fun aur=>
 cond ((!aur) && ((!decide (m_.Returns.Kind= 0)) || (!decide (m_.Returns.ap= [])))) (some 7) (cu (α:=Unit) (sg F m_ F 0) fun (_:Unit)=>
 some 0)))))
def xi (F:Nat) (eM:ap):Nat->Int->Option (Way (Int) (Unit))
 | 0,_=>none
 | eo+ 1,H0=>
   cond (decide (H0 <(eM.Fields.length:Int))) ((idx eM.Fields H0).bind fun axJ=>
   (ky F axJ.Name).bind fun aud=>
   cond (!aud) (some (.out 1)) ((idx eM.Fields H0).bind fun acF=>
   (oD F (⟨acF.Kind.Kind,acF.Kind.ap⟩:Kind)).bind fun aue=>
   cond (!aue) (some (.out 7)) (xi F eM eo (aX (H0+ 1))))) (some (.go ()))
def xj (F:Nat) (eM:ap):Nat->Int->Option (Way (Int) (Unit))
 | 0,_=>none
 | gM+ 1,OM=>
   cond (decide (OM <(eM.bh.length:Int))) ((idx eM.bh OM).bind fun axK=>
   (sd F axK).bind fun aa8=>
   cond (!decide (aa8= 0)) (some (.out aa8)) (xj F eM gM (aX (OM+ 1)))) (some (.go ()))
def pQ (F:Nat) (eM:ap):Nat->Int->Option (Way (Int) (Unit))
 | 0,_=>none
 | jx+ 1,wy=>
   cond (decide (wy <(eM.Fields.length:Int))) ((idx eM.Fields wy).bind fun axL=>
   (ky F axL.Name).bind fun auf=>
   cond (!auf) (some (.out 1)) ((idx eM.Fields wy).bind fun acG=>
   (oD F (⟨acG.Kind.Kind,acG.Kind.ap⟩:Kind)).bind fun aug=>
   cond (!aug) (some (.out 7)) (pQ F eM jx (aX (wy+ 1))))) (some (.go ()))
def pR (F:Nat) (eM:ap):Nat->Int->Option (Way (Int) (Unit))
 | 0,_=>none
 | o7+ 1,yo=>
   cond (decide (yo <(eM.bh.length:Int))) ((idx eM.bh yo).bind fun axM=>
   (sd F axM).bind fun aa9=>
   cond (!decide (aa9= 0)) (some (.out aa9)) (pR F eM o7 (aX (yo+ 1)))) (some (.go ()))
def r0 (F:Nat) (bf:List ap):Nat->Int->Option (Way (Int) (Unit))
 | 0,_=>none
 | bW+ 1,OI=>
   cond (decide (OI <(bf.length:Int))) (cY (α:=Unit) ((idx bf OI).bind fun eM=>
   (ky F eM.Name).bind fun at'=>
   cond (!at') (some (.out 1)) (cond (!decide (eM.cU= [])) ((ky F eM.cU).bind fun aua=>
   cond (!aua) (some (.out 1)) (cond ((decide (6 <(eM.Fields.length:Int))) || (decide (8 <(eM.bh.length:Int)))) (some (.out 2)) (cY (α:=Unit) (xi F eM F 0) fun (_:Unit)=>
   cY (α:=Unit) (xj F eM F 0) fun (_:Unit)=>
   some (.go ())))) (cond ((decide (6 <(eM.Fields.length:Int))) || (decide (8 <(eM.bh.length:Int)))) (some (.out 2)) (cY (α:=Unit) (pQ F eM F 0) fun (_:Unit)=>
   cY (α:=Unit) (pR F eM F 0) fun (_:Unit)=>
   some (.go ()))))) fun (_:Unit)=>
   r0 F bf bW (aX (OI+ 1))) (some (.go ()))
def xh (F:Nat) (bf:List ap):Option (Int):=
 cond (decide (10 <(bf.length:Int))) (some 2) (cu (α:=Unit) (r0 F bf F 0) fun (_:Unit)=>
 some 0)
end I
namespace I
def ln (cn:List Kind) (cE:List Kind):Nat->Int->Option (Way (Bool) (Unit))
 | 0,_=>none
 | bW+ 1,c0=>
   cond (decide (c0 <(cn.length:Int))) ((idx cn c0).bind fun kp=>
   (idx cE c0).bind fun kq=>
   cond (!decide (kp=kq)) (some (.out false)) (ln cn cE bW (aX (c0+ 1)))) (some (.go ()))
def oE (F:Nat) (cn:List Kind) (cE:List Kind):Option (Bool):=
 cond (!decide ((cn.length:Int)=(cE.length:Int))) (some false) (cu (α:=Unit) (ln cn cE F 0) fun (_:Unit)=>
 some true)
def sn (cn:List Field) (cE:List Field):Nat->Int->Option (Way (Bool) (Unit))
 | 0,_=>none
 | bW+ 1,c0=>
   cond (decide (c0 <(cn.length:Int))) ((idx cn c0).bind fun kp=>
   (idx cE c0).bind fun kq=>
   cond (!decide (kp=kq)) (some (.out false)) (sn cn cE bW (aX (c0+ 1)))) (some (.go ()))
def u0 (F:Nat) (cn:List Field) (cE:List Field):Option (Bool):=
 cond (!decide ((cn.length:Int)=(cE.length:Int))) (some false) (cu (α:=Unit) (sn cn cE F 0) fun (_:Unit)=>
 some true)
def sm (lg:Method) (l5:Method):Nat->Int->Option (Way (Bool) (Unit))
 | 0,_=>none
 | gM+ 1,HT=>
   cond (decide (HT <(lg.cF.length:Int))) ((idx lg.cF HT).bind fun awV=>
   (idx l5.cF HT).bind fun awW=>
   cond (!decide (awV=awW)) (some (.out false)) (sm lg l5 gM (aX (HT+ 1)))) (some (.go ()))
def sl (F:Nat) (rH:ap) (uD:ap):Nat->Int->Option (Way (Bool) (Unit))
 | 0,_=>none
 | eo+ 1,HS=>
   cond (decide (HS <(rH.bh.length:Int))) (cY (α:=Unit) ((idx rH.bh HS).bind fun lg=>
   (idx uD.bh HS).bind fun l5=>
   cond ((!decide (lg.Name=l5.Name)) || (!(lg.Static == l5.Static))) (some (.out false)) ((oE F lg.cC l5.cC).bind fun atu=>
   cond (!atu) (some (.out false)) (cond (((((!decide ((⟨lg.Returns.Kind,lg.Returns.ap⟩:Kind)=(⟨l5.Returns.Kind,l5.Returns.ap⟩:Kind))) || (!decide (lg.gh=l5.gh))) || (!decide (lg.gf=l5.gf))) || (!decide (lg.Code=l5.Code))) || (!decide ((lg.cF.length:Int)=(l5.cF.length:Int)))) (some (.out false)) (cY (α:=Unit) (sm lg l5 F 0) fun (_:Unit)=>
   some (.go ()))))) fun (_:Unit)=>
   sl F rH uD eo (aX (HS+ 1))) (some (.go ()))
def sk (F:Nat) (cn:List ap) (cE:List ap):Nat->Int->Option (Way (Bool) (Unit))
 | 0,_=>none
 | bW+ 1,HR=>
   cond (decide (HR <(cn.length:Int))) (cY (α:=Unit) ((idx cn HR).bind fun rH=>
   (idx cE HR).bind fun uD=>
   cond ((!decide (rH.Name=uD.Name)) || (!decide (rH.cU=uD.cU))) (some (.out false)) ((u0 F rH.Fields uD.Fields).bind fun atr=>
   cond ((!atr) || (!decide ((rH.bh.length:Int)=(uD.bh.length:Int)))) (some (.out false)) (cY (α:=Unit) (sl F rH uD F 0) fun (_:Unit)=>
   some (.go ())))) fun (_:Unit)=>
   sk F cn cE bW (aX (HR+ 1))) (some (.go ()))
def uZ (F:Nat) (cn:List ap) (cE:List ap):Option (Bool):=
 cond (!decide ((cn.length:Int)=(cE.length:Int))) (some false) (cu (α:=Unit) (sk F cn cE F 0) fun (_:Unit)=>
 some true)
def sp (cn:aH) (cE:aH):Nat->Int->Option (Way (Bool) (Unit))
 | 0,_=>none
 | bW+ 1,rk=>
   cond (decide (rk <(cn.bB.length:Int))) ((idx cn.bB rk).bind fun awD=>
   (idx cE.bB rk).bind fun Ro=>
   cond (!decide (awD=Ro)) (some (.out false)) (sp cn cE bW (aX (rk+ 1)))) (some (.go ()))
def sq (F:Nat) (cn:aH) (cE:aH):Nat->Int->Option (Way (Bool) (Unit))
 | 0,_=>none
 | eo+ 1,HU=>
   cond (decide (HU <(cn.Fields.length:Int))) ((idx cn.Fields HU).bind fun aw2=>
   (idx cE.Fields HU).bind fun aw4=>
   (u0 F aw2 aw4).bind fun atK=>
   cond (!atK) (some (.out false)) (sq F cn cE eo (aX (HU+ 1)))) (some (.go ()))
def ss (cn:aH) (cE:aH) (ph:Int):Nat->Int->Option (Way (Bool) (Unit))
 | 0,_=>none
 | jx+ 1,HY=>
   (idx cn.Names ph).bind fun axc=>
   cond (decide (HY <(axc.length:Int))) ((idx cn.Names ph).bind fun axd=>
   (idx axd HY).bind fun axg=>
   (idx cE.Names ph).bind fun axi=>
   (idx axi HY).bind fun axk=>
   cond (!decide (axg=axk)) (some (.out false)) (ss cn cE ph jx (aX (HY+ 1)))) (some (.go ()))
def sr (F:Nat) (cn:aH) (cE:aH):Nat->Int->Option (Way (Bool) (Unit))
 | 0,_=>none
 | gM+ 1,ph=>
   cond (decide (ph <(cn.Names.length:Int))) (cY (α:=Unit) ((idx cn.Names ph).bind fun aw'=>
   (idx cE.Names ph).bind fun axa=>
   cond (!decide ((aw'.length:Int)=(axa.length:Int))) (some (.out false)) (cY (α:=Unit) (ss cn cE ph F 0) fun (_:Unit)=>
   some (.go ()))) fun (_:Unit)=>
   sr F cn cE gM (aX (ph+ 1))) (some (.go ()))
def su (cn:aH) (cE:aH) (po:Int):Nat->Int->Option (Way (Bool) (Unit))
 | 0,_=>none
 | tj+ 1,H4=>
   (idx cn.bC po).bind fun ax2=>
   cond (decide (H4 <(ax2.length:Int))) ((idx cn.bC po).bind fun ax3=>
   (idx ax3 H4).bind fun ax4=>
   (idx cE.bC po).bind fun ax5=>
   (idx ax5 H4).bind fun ax6=>
   cond (!decide (ax4=ax6)) (some (.out false)) (su cn cE po tj (aX (H4+ 1)))) (some (.go ()))
def st (F:Nat) (cn:aH) (cE:aH):Nat->Int->Option (Way (Bool) (Unit))
 | 0,_=>none
 | o7+ 1,po=>
   cond (decide (po <(cn.bC.length:Int))) (cY (α:=Unit) ((idx cn.bC po).bind fun ax0=>
   (idx cE.bC po).bind fun ax1=>
   cond (!decide ((ax0.length:Int)=(ax1.length:Int))) (some (.out false)) (cY (α:=Unit) (su cn cE po F 0) fun (_:Unit)=>
   some (.go ()))) fun (_:Unit)=>
   st F cn cE o7 (aX (po+ 1))) (some (.go ()))
def u1 (F:Nat) (cn:aH) (cE:aH):Option (Bool):=
 (uZ F cn.bJ cE.bJ).bind fun Ql=>
 cond (((((!Ql) || (!decide ((cE.bB.length:Int)=(cn.bB.length:Int)))) || (!decide ((cn.Fields.length:Int)=(cE.Fields.length:Int)))) || (!decide ((cn.Names.length:Int)=(cE.Names.length:Int)))) || (!decide ((cn.bC.length:Int)=(cE.bC.length:Int)))) (some false) (cu (α:=Unit) (sp cn cE F 0) fun (_:Unit)=>
 cu (α:=Unit) (sq F cn cE F 0) fun (_:Unit)=>
 cu (α:=Unit) (sr F cn cE F 0) fun (_:Unit)=>
 cu (α:=Unit) (st F cn cE F 0) fun (_:Unit)=>
 some true)
def sh (bf:List ap) (H6:List UInt8):Nat->Int->Option (Way (Int) (Unit))
 | 0,_=>none
 | bW+ 1,H2=>
   cond (decide (H2 <(bf.length:Int))) ((idx bf H2).bind fun ax8=>
   cond (decide (ax8.Name=H6)) (some (.out H2)) (sh bf H6 bW (aX (H2+ 1)))) (some (.go ()))
def kx (F:Nat) (bf:List ap) (H6:List UInt8):Option (Int):=
 cu (α:=Unit) (sh bf H6 F 0) fun (_:Unit)=>
 some (-1)
def sy (F:Nat) (bf:List ap):Nat->Int->(List Int)->Option (Way (List Int) (List Int))
 | 0,_,_=>none
 | bW+ 1,Oz,NW=>
   cond (decide (0 <=Oz)) (cond (decide ((bf.length:Int) <(NW.length:Int))) (some (.out [])) ((cq 8 [Oz] NW).bind fun XW=>
   (idx bf Oz).bind fun acC=>
   (kx F bf acC.cU).bind fun atE=>
   sy F bf bW atE XW)) (some (.go NW))
def p1 (F:Nat) (bf:List ap) (dl:Int):Option (List Int):=
 cu (α:=List Int) (sy F bf F dl []) fun (amM:List Int)=>
 some amM
def p0 (F:Nat) (v3:List Kind) (bf:List ap):Nat->Int->Option (Way (Bool) (Unit))
 | 0,_=>none
 | bW+ 1,Ej=>
   cond (decide (Ej <(v3.length:Int))) ((idx v3 Ej).bind fun aye=>
   cond (!decide (aye.ap= [])) ((idx v3 Ej).bind fun awE=>
   (kx F bf awE.ap).bind fun ath=>
   cond (decide (ath < 0)) (some (.out false)) (p0 F v3 bf bW (aX (Ej+ 1)))) (p0 F v3 bf bW (aX (Ej+ 1)))) (some (.go ()))
def sx (F:Nat) (bf:List ap) (v3:List Kind):Option (Bool):=
 cu (α:=Unit) (p0 F v3 bf F 0) fun (_:Unit)=>
 some true
def nd (bf:List ap) (hB:List Int):Nat->(List Field)->Int->Option (List Field)
 | 0,_,_=>none
 | bW+ 1,XX,OG=>
   cond (decide (OG <(hB.length:Int))) ((idx hB OG).bind fun aw5=>
   (idx bf aw5).bind fun aw8=>
   (cq 40 XX aw8.Fields).bind fun am8=>
   nd bf hB bW am8 (aX (OG+ 1))) (some XX)
def rZ (F:Nat) (bf:List ap) (dl:Int):Option (List Field):=
 (p1 F bf dl).bind fun hB=>
 Option.bind (α:=List Field) (nd bf hB F [] 0) fun (am4:List Field)=>
 some am4
def nj (jy:List (List UInt8)) (m7:Method):Nat->Int->Option (Int)
 | 0,_=>none
 | gM+ 1,mR=>
   cond (decide (mR <(jy.length:Int))) ((idx jy mR).bind fun axY=>
   cond (!decide (axY=m7.Name)) (nj jy m7 gM (aX (mR+ 1))) (some mR)) (some mR)
def sw (F:Nat) (bf:List ap) (hB:List Int) (tN:Int):Nat->(List Target)->(List (List UInt8))->Int->Option ((List Target) × (List (List UInt8)))
 | 0,_,_,_=>none
 | eo+ 1,N3,jy,H3=>
   (idx hB tN).bind fun axU=>
   (idx bf axU).bind fun axV=>
   cond (decide (H3 <(axV.bh.length:Int))) (Option.bind (α:=(List Target) × (List (List UInt8))) ((idx hB tN).bind fun axW=>
   (idx bf axW).bind fun axX=>
   (idx axX.bh H3).bind fun m7=>
   Option.bind (α:=Int) (nj jy m7 F 0) fun (OQ:Int)=>
   Option.bind (α:=(List Target) × (List (List UInt8))) (cond (decide (OQ=(jy.length:Int))) ((cq 16 jy [m7.Name]).bind fun anH=>
   (cq 16 N3 [(⟨0,0⟩:Target)]).bind fun anI=>
   some (anI,anH)) (some (N3,jy))) fun ((X4,anG):(List Target) × (List (List UInt8)))=>
   (idx hB tN).bind fun axZ=>
   (idx X4 OQ).bind fun az0=>
   (some (X4.set (OQ).toNat (⟨axZ,H3⟩:Target))).bind fun anJ=>
   some (anJ,anG)) fun ((anE,anF):(List Target) × (List (List UInt8)))=>
   sw F bf hB tN eo anE anF (aX (H3+ 1))) (some (N3,jy))
def sv (F:Nat) (bf:List ap) (hB:List Int):Nat->(List Target)->(List (List UInt8))->Int->Option ((List Target) × (List (List UInt8)))
 | 0,_,_,_=>none
 | bW+ 1,X2,X3,tN=>
   cond (decide (tN <(hB.length:Int))) (Option.bind (α:=(List Target) × (List (List UInt8))) (Option.bind (α:=(List Target) × (List (List UInt8))) (sw F bf hB tN F X2 X3 0) fun ((anC,anD):(List Target) × (List (List UInt8)))=>
   some (anC,anD)) fun ((anA,anB):(List Target) × (List (List UInt8)))=>
   sv F bf hB bW anA anB (aX (tN+ 1))) (some (X2,X3))
def xm (F:Nat) (bf:List ap) (dl:Int):Option ((List (List UInt8)) × (List Target)):=
 (p1 F bf dl).bind fun hB=>
 Option.bind (α:=(List Target) × (List (List UInt8))) (sv F bf hB F [] [] 0) fun ((ano,anp):(List Target) × (List (List UInt8)))=>
 some (anp,ano)
end I
namespace I
def oz (F:Nat) (bf:List ap):Nat->Int->Option (Way (Int) (Unit))
 | 0,_=>none
 | bW+ 1,jC=>
   cond (decide (jC <(bf.length:Int))) ((idx bf jC).bind fun ayd=>
   (kx F bf ayd.Name).bind fun ate=>
   cond (!decide (ate=jC)) (some (.out 6)) (oz F bf bW (aX (jC+ 1)))) (some (.go ()))
def r9 (bf:List ap):Nat->Int->Option (Way (Int) (Unit))
 | 0,_=>none
 | eo+ 1,HV=>
   cond (decide (HV <(bf.length:Int))) ((idx bf HV).bind fun aw3=>
   (idx bf HV).bind fun aw7=>
   cond (!((decide (aw3.Name= [79,98,106,101,99,116])) == (decide (aw7.cU= [])))) (some (.out 4)) (r9 bf eo (aX (HV+ 1)))) (some (.go ()))
def pV (F:Nat) (bf:List ap):Nat->Int->Option (Way (Int) (Unit))
 | 0,_=>none
 | gM+ 1,Ei=>
   cond (decide (Ei <(bf.length:Int))) ((idx bf Ei).bind fun axx=>
   cond (!decide (axx.cU= [])) ((idx bf Ei).bind fun axB=>
   (kx F bf axB.cU).bind fun at6=>
   cond (decide (at6 < 0)) (some (.out 5)) (pV F bf gM (aX (Ei+ 1)))) (pV F bf gM (aX (Ei+ 1)))) (some (.go ()))
def r_ (F:Nat) (bf:List ap):Nat->Int->Option (Way (Int) (Unit))
 | 0,_=>none
 | jx+ 1,OL=>
   cond (decide (OL <(bf.length:Int))) ((p1 F bf OL).bind fun at8=>
   cond (decide ((at8.length:Int)= 0)) (some (.out 4)) (r_ F bf jx (aX (OL+ 1)))) (some (.go ()))
def r' (F:Nat) (bf:List ap) (mQ:Int):Nat->Int->Option (Way (Int) (Unit))
 | 0,_=>none
 | tj+ 1,OB=>
   (idx bf mQ).bind fun awQ=>
   cond (decide (OB <(awQ.Fields.length:Int))) ((idx bf mQ).bind fun awR=>
   (idx awR.Fields OB).bind fun acB=>
   (sx F bf [(⟨acB.Kind.Kind,acB.Kind.ap⟩:Kind)]).bind fun ats=>
   cond (!ats) (some (.out 5)) (r' F bf mQ tj (aX (OB+ 1)))) (some (.go ()))
def sb (F:Nat) (bf:List ap) (uF:Method):Nat->Int->Option (Way (Int) (Unit))
 | 0,_=>none
 | NS+ 1,OD=>
   cond (decide (OD <(uF.cF.length:Int))) ((idx uF.cF OD).bind fun aw0=>
   (kx F bf aw0.ap).bind fun atz=>
   cond (decide (atz < 0)) (some (.out 5)) (sb F bf uF NS (aX (OD+ 1)))) (some (.go ()))
def sa (F:Nat) (bf:List ap) (mQ:Int):Nat->Int->Option (Way (Int) (Unit))
 | 0,_=>none
 | Hv+ 1,OC=>
   (idx bf mQ).bind fun awX=>
   cond (decide (OC <(awX.bh.length:Int))) (cY (α:=Unit) ((idx bf mQ).bind fun awY=>
   (idx awY.bh OC).bind fun uF=>
   (sx F bf uF.cC).bind fun atx=>
   cond (!atx) (some (.out 5)) ((sx F bf [(⟨uF.Returns.Kind,uF.Returns.ap⟩:Kind)]).bind fun aty=>
   cond (!aty) (some (.out 5)) (cY (α:=Unit) (sb F bf uF F 0) fun (_:Unit)=>
   some (.go ())))) fun (_:Unit)=>
   sa F bf mQ Hv (aX (OC+ 1))) (some (.go ()))
def pW (F:Nat) (bf:List ap):Nat->Int->Option (Way (Int) (Unit))
 | 0,_=>none
 | o7+ 1,mQ=>
   cond (decide (mQ <(bf.length:Int))) (cY (α:=Unit) (cY (α:=Unit) (r' F bf mQ F 0) fun (_:Unit)=>
   cY (α:=Unit) (sa F bf mQ F 0) fun (_:Unit)=>
   some (.go ())) fun (_:Unit)=>
   pW F bf o7 (aX (mQ+ 1))) (some (.go ()))
def r5 (rm:List Field) (wx:Int):Nat->Int->Option (Way (Int) (Unit))
 | 0,_=>none
 | amA+ 1,OJ=>
   cond (decide (OJ <wx)) ((idx rm OJ).bind fun axu=>
   (idx rm wx).bind fun axv=>
   cond (decide (axu.Name=axv.Name)) (some (.out 6)) (r5 rm wx amA (aX (OJ+ 1)))) (some (.go ()))
def r4 (F:Nat) (rm:List Field):Nat->Int->Option (Way (Int) (Unit))
 | 0,_=>none
 | amz+ 1,wx=>
   cond (decide (wx <(rm.length:Int))) (cY (α:=Unit) (cY (α:=Unit) (r5 rm wx F 0) fun (_:Unit)=>
   some (.go ())) fun (_:Unit)=>
   r4 F rm amz (aX (wx+ 1))) (some (.go ()))
def oB (g4:ap) (hz:Int):Nat->Int->Option (Way (Int) (Unit))
 | 0,_=>none
 | amC+ 1,pj=>
   cond (decide (pj <hz)) ((idx g4.bh pj).bind fun axy=>
   (idx g4.bh hz).bind fun axz=>
   cond (decide (axy.Name=axz.Name)) (some (.out 6)) (oB g4 hz amC (aX (pj+ 1)))) (some (.go ()))
def oA (F:Nat) (g4:ap):Nat->Int->Option (Way (Int) (Unit))
 | 0,_=>none
 | amB+ 1,hz=>
   cond (decide (hz <(g4.bh.length:Int))) (cY (α:=Unit) (cY (α:=Unit) (oB g4 hz F 0) fun (_:Unit)=>
   some (.go ())) fun (_:Unit)=>
   oA F g4 amB (aX (hz+ 1))) (some (.go ()))
def sc (F:Nat) (bf:List ap):Nat->Int->Option (Way (Int) (Unit))
 | 0,_=>none
 | Hw+ 1,HW=>
   cond (decide (HW <(bf.length:Int))) (cY (α:=Unit) ((rZ F bf HW).bind fun rm=>
   cY (α:=Unit) (r4 F rm F 0) fun (_:Unit)=>
   (idx bf HW).bind fun g4=>
   cY (α:=Unit) (oA F g4 F 0) fun (_:Unit)=>
   some (.go ())) fun (_:Unit)=>
   sc F bf Hw (aX (HW+ 1))) (some (.go ()))
def pU (F:Nat) (bf:List ap) (kd:Int) (lV:List Int) (n1:Int) (wB:Int):Nat->Int->Option (Way (Int) (Unit))
 | 0,_=>none
 | Wb+ 1,H5=>
   (idx lV n1).bind fun ax_=>
   (idx bf ax_).bind fun ax'=>
   cond (decide (H5 <(ax'.bh.length:Int))) ((idx bf kd).bind fun aya=>
   (idx aya.bh wB).bind fun Fg=>
   (idx lV n1).bind fun ayb=>
   (idx bf ayb).bind fun ayc=>
   (idx ayc.bh H5).bind fun Fh=>
   cond (decide (Fg.Name=Fh.Name)) (cond (Fg.Static || Fh.Static) (some (.out 4)) ((oE F Fg.cC Fh.cC).bind fun auu=>
   cond (!auu) (some (.out 4)) (cond (!decide ((⟨Fg.Returns.Kind,Fg.Returns.ap⟩:Kind)=(⟨Fh.Returns.Kind,Fh.Returns.ap⟩:Kind))) (some (.out 4)) (pU F bf kd lV n1 wB Wb (aX (H5+ 1)))))) (pU F bf kd lV n1 wB Wb (aX (H5+ 1)))) (some (.go ()))
def r8 (F:Nat) (bf:List ap) (kd:Int) (lV:List Int) (n1:Int):Nat->Int->Option (Way (Int) (Unit))
 | 0,_=>none
 | amF+ 1,wB=>
   (idx bf kd).bind fun ax9=>
   cond (decide (wB <(ax9.bh.length:Int))) (cY (α:=Unit) (cY (α:=Unit) (pU F bf kd lV n1 wB F 0) fun (_:Unit)=>
   some (.go ())) fun (_:Unit)=>
   r8 F bf kd lV n1 amF (aX (wB+ 1))) (some (.go ()))
def r7 (F:Nat) (bf:List ap) (kd:Int) (lV:List Int):Nat->Int->Option (Way (Int) (Unit))
 | 0,_=>none
 | amE+ 1,n1=>
   cond (decide (n1 <(aX ((lV.length:Int) - 1)))) (cY (α:=Unit) (cY (α:=Unit) (r8 F bf kd lV n1 F 0) fun (_:Unit)=>
   some (.go ())) fun (_:Unit)=>
   r7 F bf kd lV amE (aX (n1+ 1))) (some (.go ()))
def r6 (F:Nat) (bf:List ap):Nat->Int->Option (Way (Int) (Unit))
 | 0,_=>none
 | amD+ 1,kd=>
   cond (decide (kd <(bf.length:Int))) (cY (α:=Unit) ((p1 F bf kd).bind fun lV=>
   cY (α:=Unit) (r7 F bf kd lV F 0) fun (_:Unit)=>
   some (.go ())) fun (_:Unit)=>
   r6 F bf amD (aX (kd+ 1))) (some (.go ()))
def xk (F:Nat) (bf:List ap):Option (Int):=
 (xh F bf).bind fun hB=>
 cond (!decide (hB= 0)) (some hB) (cu (α:=Unit) (oz F bf F 0) fun (_:Unit)=>
 (kx F bf [79,98,106,101,99,116]).bind fun atf=>
 cond (decide (atf < 0)) (some 5) ((kx F bf [69,114,114,111,114]).bind fun ati=>
 cond (decide (ati < 0)) (some 5) (cu (α:=Unit) (r9 bf F 0) fun (_:Unit)=>
 cu (α:=Unit) (pV F bf F 0) fun (_:Unit)=>
 cu (α:=Unit) (r_ F bf F 0) fun (_:Unit)=>
 (kx F bf [69,114,114,111,114]).bind fun aa6=>
 (rZ F bf aa6).bind fun aa7=>
 (idx bf aa6).bind fun axF=>
 cond ((!decide (axF.cU= [79,98,106,101,99,116])) || (decide ((aa7.length:Int)= 0))) (some 4) ((idx aa7 0).bind fun axH=>
 cond (!decide (axH.Kind.Kind= 1)) (some 4) (cu (α:=Unit) (pW F bf F 0) fun (_:Unit)=>
 cu (α:=Unit) (sc F bf F 0) fun (_:Unit)=>
 cu (α:=Unit) (r6 F bf F 0) fun (_:Unit)=>
 some 0)))))
def nh (F:Nat) (bf:List ap):Nat->(List (List Target))->(List (List (List UInt8)))->(List (List Field))->(List Int)->Int->Option (Way (aH × Int) ((List (List Target)) × (List (List (List UInt8))) × (List (List Field)) × (List Int)))
 | 0,_,_,_,_,_=>none
 | bW+ 1,v5,v7,v8,v9,pg=>
   cond (decide (pg <(bf.length:Int))) ((rZ F bf pg).bind fun aa0=>
   (xm F bf pg).bind fun Qd=>
   cond ((decide (12 <(aa0.length:Int))) || (decide (16 <(Qd.1.length:Int)))) (some (.out ((⟨[],[],[],[],[]⟩:aH),2))) ((idx bf pg).bind fun awU=>
   (kx F bf awU.cU).bind fun atw=>
   (cq 8 v9 [atw]).bind fun am0=>
   (cq 24 v8 [aa0]).bind fun am1=>
   (cq 24 v7 [Qd.1]).bind fun am2=>
   (cq 24 v5 [Qd.2]).bind fun am3=>
   nh F bf bW am3 am2 am1 am0 (aX (pg+ 1)))) (some (.go (v5,v7,v8,v9)))
def xl (F:Nat) (bf:List ap):Option (aH × Int):=
 (xk F bf).bind fun rn=>
 cond (!decide (rn= 0)) (some ((⟨[],[],[],[],[]⟩:aH),rn)) (cu (α:=(List (List Target)) × (List (List (List UInt8))) × (List (List Field)) × (List Int)) (nh F bf F [] [] [] [] 0) fun ((amV,amW,amX,amY):(List (List Target)) × (List (List (List UInt8))) × (List (List Field)) × (List Int))=>
 some ((⟨bf,amY,amX,amW,amV⟩:aH),0))
end I
namespace I
def lM (aT:bi):Nat->(List ((List UInt8) × Int))->Int->Option (Way (Int × bi) (List ((List UInt8) × Int)))
 | 0,_,_=>none
 | bW+ 1,lO,n0=>
   cond (decide (n0 <(aT.l.length:Int))) ((idx aT.l n0).bind fun acM=>
   cond ((dL lO acM.Name).isSome) (some (.out (6,(⟨aT.l,lO,aT.c'⟩:bi)))) (lM aT bW (hT lO acM.Name n0) (aX (n0+ 1)))) (some (.go lO))
def wi (F:Nat) (aT:bi):Option (Int × bi):=
 cu (α:=List ((List UInt8) × Int)) (lM aT F aT.b8 0) fun (HJ:List ((List UInt8) × Int))=>
 cond ((!((dL HJ [79,98,106,101,99,116]).isSome)) || (!((dL HJ [69,114,114,111,114]).isSome))) (some (5,(⟨aT.l,HJ,aT.c'⟩:bi))) (some (0,(⟨aT.l,HJ,aT.c'⟩:bi)))
def q5 (aT:bi):Nat->Int->Option (Way (Int × bi) (Unit))
 | 0,_=>none
 | bW+ 1,tT=>
   cond (decide (tT <(aT.l.length:Int))) ((idx aT.l tT).bind fun acL=>
   cond (!((decide (acL.Name= [79,98,106,101,99,116])) == (decide (acL.cU= [])))) (some (.out (4,(⟨aT.l,aT.b8,aT.c'⟩:bi)))) (q5 aT bW (aX (tT+ 1)))) (some (.go ()))
def ka (aT:bi):Nat->(List Int)->Int->Option (Way (Int × bi) (List Int))
 | 0,_,_=>none
 | eo+ 1,o_,pi=>
   cond (decide (pi <(aT.l.length:Int))) (cY (α:=List Int) ((idx aT.l pi).bind fun Ry=>
   cY (α:=Int) (cY (α:=Int) (cond (decide (Ry.cU= [])) (some (.go (-1))) (cond (!((dL aT.b8 Ry.cU).isSome)) (some (.out (5,(⟨aT.l,aT.b8,o_⟩:bi)))) (some (.go ((dL aT.b8 Ry.cU).getD 0))))) fun (aoA:Int)=>
   some (.go aoA)) fun (OO:Int)=>
   (cq 8 o_ [OO]).bind fun N2=>
   some (.go N2)) fun (N1:List Int)=>
   ka aT eo N1 (aX (pi+ 1))) (some (.go o_))
def pa (aT:bi) (gY:List Int):Nat->Int->Int->Option (Int)
 | 0,_,_=>none
 | jx+ 1,rb,rc=>
   cond (decide (rc <(aT.l.length:Int))) ((idx gY rb).bind fun Rt=>
   cond (decide (Rt < 0)) (some Rt) (pa aT gY jx Rt (aX (rc+ 1)))) (some rb)
def nP (F:Nat) (aT:bi) (gY:List Int):Nat->Int->Option (Way (Int × bi) (Unit))
 | 0,_=>none
 | gM+ 1,pf=>
   cond (decide (pf <(aT.l.length:Int))) (cY (α:=Unit) (Option.bind (α:=Int) (Option.bind (α:=Int) (pa aT gY F pf 0) fun (aox:Int)=>
   some aox) fun (aow:Int)=>
   cond (decide (0 <=aow)) (some (.out (4,(⟨aT.l,aT.b8,gY⟩:bi)))) (some (.go ()))) fun (_:Unit)=>
   nP F aT gY gM (aX (pf+ 1))) (some (.go ()))
def D' (F:Nat) (aT:bi):Option (Int × bi):=
 cu (α:=Unit) (q5 aT F 0) fun (_:Unit)=>
 cu (α:=List Int) (ka aT F aT.c' 0) fun (gY:List Int)=>
 cu (α:=Unit) (nP F aT gY F 0) fun (_:Unit)=>
 some (0,(⟨aT.l,aT.b8,gY⟩:bi))
def mJ (aT:bi):Nat->(List Int)->Int->Option (List Int)
 | 0,_,_=>none
 | bW+ 1,mB,kb=>
   cond (decide (0 <=kb)) ((cq 8 mB [kb]).bind fun D4=>
   (idx aT.c' kb).bind fun l4=>
   mJ aT bW D4 l4) (some mB)
def mI (F:Nat) (aT:bi) (dl:Int):Option (List Int):=
 Option.bind (α:=List Int) (mJ aT F [] dl) fun (qQ:List Int)=>
 some qQ
def EX (_:List Int):Option Unit:=some ()
def tq (aT:bi):List Int->(List Field)->Option (List Field)
 | [],iY=>some iY
 | uE::IH,iY=>
   (idx aT.l uE).bind fun uI=>
   (cq 40 iY uI.Fields).bind fun HD=>
   tq aT IH HD
def pb (F:Nat) (aT:bi) (dl:Int):Option (List Field):=
 (mI F (⟨aT.l,aT.b8,aT.c'⟩:bi) dl).bind fun rp=>
 (EX rp).bind fun Qc=>
 Option.bind (α:=List Field) (tq aT rp.reverse []) fun (iY:List Field)=>
 some iY
def Ea (F:Nat) (aT:bi):Option (Int):=
 (pb F (⟨aT.l,aT.b8,aT.c'⟩:bi) ((dL aT.b8 [69,114,114,111,114]).getD 0)).bind fun fw=>
 (idx aT.l ((dL aT.b8 [69,114,114,111,114]).getD 0)).bind fun awH=>
 cond ((!decide (awH.cU= [79,98,106,101,99,116])) || (decide ((fw.length:Int)= 0))) (some 4) ((idx fw 0).bind fun aw6=>
 cond (!decide (aw6.Kind.Kind= 1)) (some 4) (some 0))
def tx (a8:Kind) (eK:List (List UInt8)):Option (List (List UInt8)):=
 cond (!decide (a8.ap= [])) ((cq 16 eK [a8.ap]).bind fun anP=>
 some anP) (some eK)
def q8 (fy:ap):Nat->(List (List UInt8))->Int->Option (List (List UInt8))
 | 0,_,_=>none
 | eo+ 1,wc,tO=>
   cond (decide (tO <(fy.Fields.length:Int))) ((idx fy.Fields tO).bind fun acH=>
   (tx (⟨acH.Kind.Kind,acH.Kind.ap⟩:Kind) wc).bind fun auh=>
   q8 fy eo auh (aX (tO+ 1))) (some wc)
def q9 (fm:Method):Nat->(List (List UInt8))->Int->Option (List (List UInt8))
 | 0,_,_=>none
 | jx+ 1,wg,tP=>
   cond (decide (tP <(fm.cC.length:Int))) ((idx fm.cC tP).bind fun acI=>
   (tx (⟨acI.Kind,acI.ap⟩:Kind) wg).bind fun auk=>
   q9 fm jx auk (aX (tP+ 1))) (some wg)
def nT (fm:Method):Nat->(List (List UInt8))->Int->Option (List (List UInt8))
 | 0,_,_=>none
 | o7+ 1,qV,pq=>
   cond (decide (pq <(fm.cF.length:Int))) ((idx fm.cF pq).bind fun axS=>
   (cq 16 qV [axS.ap]).bind fun anx=>
   nT fm o7 anx (aX (pq+ 1))) (some qV)
def nS (F:Nat) (fy:ap):Nat->(List (List UInt8))->Int->Option (List (List UInt8))
 | 0,_,_=>none
 | gM+ 1,qU,pn=>
   cond (decide (pn <(fy.bh.length:Int))) (Option.bind (α:=List (List UInt8)) ((idx fy.bh pn).bind fun fm=>
   Option.bind (α:=List (List UInt8)) (q9 fm F qU 0) fun (anv:List (List UInt8))=>
   (tx (⟨fm.Returns.Kind,fm.Returns.ap⟩:Kind) anv).bind fun aul=>
   Option.bind (α:=List (List UInt8)) (nT fm F aul 0) fun (anw:List (List UInt8))=>
   some anw) fun (anu:List (List UInt8))=>
   nS F fy gM anu (aX (pn+ 1))) (some qU)
def q7 (F:Nat) (aT:bi):Nat->(List (List UInt8))->Int->Option (List (List UInt8))
 | 0,_,_=>none
 | bW+ 1,wb,tM=>
   cond (decide (tM <(aT.l.length:Int))) (Option.bind (α:=List (List UInt8)) ((idx aT.l tM).bind fun fy=>
   Option.bind (α:=List (List UInt8)) (q8 fy F wb 0) fun (ans:List (List UInt8))=>
   Option.bind (α:=List (List UInt8)) (nS F fy F ans 0) fun (ant:List (List UInt8))=>
   some ant) fun (anr:List (List UInt8))=>
   q7 F aT bW anr (aX (tM+ 1))) (some wb)
def tz (aT:bi) (mE:List (List UInt8)):Nat->Int->Option (Way (Int) (Unit))
 | 0,_=>none
 | tj+ 1,tQ=>
   cond (decide (tQ <(mE.length:Int))) ((idx mE tQ).bind fun axT=>
   cond (!((dL aT.b8 axT).isSome)) (some (.out 5)) (tz aT mE tj (aX (tQ+ 1)))) (some (.go ()))
def yh (F:Nat) (aT:bi):Option (Int):=
 Option.bind (α:=List (List UInt8)) (q7 F aT F [] 0) fun (mE:List (List UInt8))=>
 cu (α:=Unit) (tz aT mE F 0) fun (_:Unit)=>
 some 0
def tA (bf:List (List UInt8)):Nat->(List ((List UInt8) × Bool))->Int->Option (List ((List UInt8) × Bool))
 | 0,_,_=>none
 | bW+ 1,wm,tJ=>
   cond (decide (tJ <(bf.length:Int))) ((idx bf tJ).bind fun axG=>
   tA bf bW (hT wm axG true) (aX (tJ+ 1))) (some wm)
def wl (F:Nat) (bf:List (List UInt8)):Option (Bool):=
 Option.bind (α:=List ((List UInt8) × Bool)) (tA bf F [] 0) fun (aoa:List ((List UInt8) × Bool))=>
 some (decide ((aoa.length:Int) <(bf.length:Int)))
def q6 (lT:List Field):Nat->(List (List UInt8))->Int->Option (List (List UInt8))
 | 0,_,_=>none
 | eo+ 1,wa,tL=>
   cond (decide (tL <(lT.length:Int))) ((idx lT tL).bind fun axE=>
   (cq 16 wa [axE.Name]).bind fun anl=>
   q6 lT eo anl (aX (tL+ 1))) (some wa)
def nR (ko:ap):Nat->(List (List UInt8))->Int->Option (List (List UInt8))
 | 0,_,_=>none
 | gM+ 1,qT,pk=>
   cond (decide (pk <(ko.bh.length:Int))) ((idx ko.bh pk).bind fun axI=>
   (cq 16 qT [axI.Name]).bind fun ann=>
   nR ko gM ann (aX (pk+ 1))) (some qT)
def tu (F:Nat) (aT:bi):Nat->Int->Option (Way (Int) (Unit))
 | 0,_=>none
 | bW+ 1,rh=>
   cond (decide (rh <(aT.l.length:Int))) (cY (α:=Unit) ((idx aT.l rh).bind fun ko=>
   (pb F (⟨aT.l,aT.b8,aT.c'⟩:bi) rh).bind fun lT=>
   Option.bind (α:=List (List UInt8)) (q6 lT F [] 0) fun (ank:List (List UInt8))=>
   Option.bind (α:=List (List UInt8)) (nR ko F [] 0) fun (anm:List (List UInt8))=>
   (wl F ank).bind fun aub=>
   cond (aub) (some (.out 6)) ((wl F anm).bind fun auc=>
   cond (auc) (some (.out 6)) (some (.go ())))) fun (_:Unit)=>
   tu F aT bW (aX (rh+ 1))) (some (.go ()))
def yg (F:Nat) (aT:bi):Option (Int):=
 cu (α:=Unit) (tu F aT F 0) fun (_:Unit)=>
 some 0
def wQ (bX:List Kind) (cp:List Kind):Nat->Int->Option (Way (Bool) (Unit))
 | 0,_=>none
 | bW+ 1,c0=>
   cond (decide (c0 <(bX.length:Int))) ((idx bX c0).bind fun kp=>
   (idx cp c0).bind fun kq=>
   cond (!decide (kp=kq)) (some (.out false)) (wQ bX cp bW (aX (c0+ 1)))) (some (.go ()))
def yR (F:Nat) (bX:List Kind) (cp:List Kind):Option (Bool):=
 cond (!decide ((bX.length:Int)=(cp.length:Int))) (some false) (cu (α:=Unit) (wQ bX cp F 0) fun (_:Unit)=>
 some true)
def D_ (F:Nat) (cn:Method) (cE:Method):Option (Bool):=
 cond ((!cn.Static) && (!cE.Static)) ((yR F cn.cC cE.cC).bind fun g0=>
 cond (g0) (some (decide ((⟨cn.Returns.Kind,cn.Returns.ap⟩:Kind)=(⟨cE.Returns.Kind,cE.Returns.ap⟩:Kind)))) (some false)) (some false)
def nQ (F:Nat) (hH:Method) (jL:ap):Nat->Int->Option (Way (Int) (Unit))
 | 0,_=>none
 | jx+ 1,nY=>
   cond (decide (nY <(jL.bh.length:Int))) ((idx jL.bh nY).bind fun pI=>
   cond (decide (hH.Name=pI.Name)) ((D_ F (⟨hH.Name,hH.Static,hH.cC,(⟨hH.Returns.Kind,hH.Returns.ap⟩:Kind),hH.gh,hH.gf,hH.Code,hH.cF⟩:Method) (⟨pI.Name,pI.Static,pI.cC,(⟨pI.Returns.Kind,pI.Returns.ap⟩:Kind),pI.gh,pI.gf,pI.Code,pI.cF⟩:Method)).bind fun atJ=>
   cond (!atJ) (some (.out 4)) (nQ F hH jL jx (aX (nY+ 1)))) (nQ F hH jL jx (aX (nY+ 1)))) (some (.go ()))
def tt (F:Nat) (aT:bi) (g3:ap) (rJ:Int):Nat->Int->Option (Way (Int) (Unit))
 | 0,_=>none
 | gM+ 1,tH=>
   cond (decide (tH <(g3.bh.length:Int))) (cY (α:=Unit) ((idx g3.bh tH).bind fun hH=>
   (idx aT.l rJ).bind fun jL=>
   cY (α:=Unit) (nQ F hH jL F 0) fun (_:Unit)=>
   some (.go ())) fun (_:Unit)=>
   tt F aT g3 rJ gM (aX (tH+ 1))) (some (.go ()))
def ts (F:Nat) (aT:bi) (g3:ap) (mD:List Int):Nat->Int->Option (Way (Int) (Unit))
 | 0,_=>none
 | eo+ 1,tG=>
   cond (decide (tG <(mD.length:Int))) (cY (α:=Unit) ((idx mD tG).bind fun rJ=>
   cY (α:=Unit) (tt F aT g3 rJ F 0) fun (_:Unit)=>
   some (.go ())) fun (_:Unit)=>
   ts F aT g3 mD eo (aX (tG+ 1))) (some (.go ()))
def tr (F:Nat) (aT:bi):Nat->Int->Option (Way (Int) (Unit))
 | 0,_=>none
 | bW+ 1,ra=>
   cond (decide (ra <(aT.l.length:Int))) (cY (α:=Unit) ((idx aT.l ra).bind fun g3=>
   (mI F (⟨aT.l,aT.b8,aT.c'⟩:bi) ra).bind fun Qk=>
   (cut Qk 1 (Qk.length:Int)).bind fun mD=>
   cY (α:=Unit) (ts F aT g3 mD F 0) fun (_:Unit)=>
   some (.go ())) fun (_:Unit)=>
   tr F aT bW (aX (ra+ 1))) (some (.go ()))
def yf (F:Nat) (aT:bi):Option (Int):=
 cu (α:=Unit) (tr F aT F 0) fun (_:Unit)=>
 some 0
end I
namespace I
def QV (s_:List Field):Option (List Field):=
 (cq 40 ([]:List Field) s_).bind fun qS=>
 some qS
def QY (s_:List Method):Option (List Method):=
 (cq 128 ([]:List Method) s_).bind fun qS=>
 some qS
def QX (s_:List Kind):Option (List Kind):=
 (cq 24 ([]:List Kind) s_).bind fun qS=>
 some qS
def QW (s_:List Handler):Option (List Handler):=
 (cq 40 ([]:List Handler) s_).bind fun qS=>
 some qS
def nV:Nat->(List Method)->Int->Int->Option (List Method)
 | 0,_,_,_=>none
 | eo+ 1,HB,Z8,wz=>
   cond (decide (wz <Z8)) ((idx HB wz).bind fun acK=>
   (QX acK.cC).bind fun aup=>
   (QW acK.cF).bind fun auq=>
   (idx HB wz).bind fun uG=>
   (some (HB.set (wz).toNat (⟨uG.Name,uG.Static,aup,(⟨uG.Returns.Kind,uG.Returns.ap⟩:Kind),uG.gh,uG.gf,uG.Code,uG.cF⟩:Method))).bind fun X5=>
   (idx X5 wz).bind fun uH=>
   (some (X5.set (wz).toNat (⟨uH.Name,uH.Static,uH.cC,(⟨uH.Returns.Kind,uH.Returns.ap⟩:Kind),uH.gh,uH.gf,uH.Code,auq⟩:Method))).bind fun anM=>
   nV eo anM Z8 (aX (wz+ 1))) (some HB)
def nU (F:Nat) (bf:List ap):Nat->(List ap)->Int->Option (List ap)
 | 0,_,_=>none
 | bW+ 1,wh,tS=>
   cond (decide (tS <(bf.length:Int))) (Option.bind (α:=List ap) ((idx bf tS).bind fun Jw=>
   (QV Jw.Fields).bind fun aun=>
   (QY Jw.bh).bind fun aa'=>
   Option.bind (α:=List Method) (nV F aa' (aa'.length:Int) 0) fun (anL:List Method)=>
   (cq 80 wh [(⟨Jw.Name,Jw.cU,aun,anL⟩:ap)]).bind fun anN=>
   some anN) fun (anK:List ap)=>
   nU F bf bW anK (aX (tS+ 1))) (some wh)
def yi (F:Nat) (bf:List ap):Option (List ap):=
 Option.bind (α:=List ap) (nU F bf F [] 0) fun (anq:List ap)=>
 some anq
def uv (s_:List (List UInt8)) (aG:List UInt8):Nat->Int->Option (Way (Int) (Unit))
 | 0,_=>none
 | bW+ 1,hU=>
   cond (decide (hU <(s_.length:Int))) ((idx s_ hU).bind fun Ff=>
   cond (decide (aG=Ff)) (some (.out hU)) (uv s_ aG bW (aX (hU+ 1)))) (some (.go ()))
def E3 (F:Nat) (s_:List (List UInt8)) (aG:List UInt8):Option (Int):=
 cu (α:=Unit) (uv s_ aG F 0) fun (_:Unit)=>
 some (-1)
def tw (F:Nat) (ez:Int) (e1:ap):Nat->(List (List UInt8))->(List Target)->Int->Option ((List (List UInt8)) × (List Target))
 | 0,_,_,_=>none
 | eo+ 1,ih,j_,ew=>
   cond (decide (ew <(e1.bh.length:Int))) (Option.bind (α:=(List (List UInt8)) × (List Target)) ((idx e1.bh ew).bind fun e2=>
   (E3 F ih e2.Name).bind fun wL=>
   cond (decide (0 <=wL)) ((idx j_ wL).bind fun RA=>
   (some (j_.set (wL).toNat (⟨ez,ew⟩:Target))).bind fun N6=>
   some (ih,N6)) ((cq 16 ih [e2.Name]).bind fun HC=>
   (cq 16 j_ [(⟨ez,ew⟩:Target)]).bind fun o'=>
   some (HC,o'))) fun ((q0,q1):(List (List UInt8)) × (List Target))=>
   tw F ez e1 eo q0 q1 (aX (ew+ 1))) (some (ih,j_))
def tv (F:Nat) (aT:bi):List Int->(List (List UInt8))->(List Target)->Option ((List (List UInt8)) × (List Target))
 | [],iZ,i_=>some (iZ,i_)
 | ez::II,iZ,i_=>
   Option.bind (α:=(List (List UInt8)) × (List Target)) ((idx aT.l ez).bind fun e1=>
   Option.bind (α:=(List (List UInt8)) × (List Target)) (tw F ez e1 F iZ i_ 0) fun ((qY,qZ):(List (List UInt8)) × (List Target))=>
   some (qY,qZ)) fun ((qW,qX):(List (List UInt8)) × (List Target))=>
   tv F aT II qW qX
def wj (F:Nat) (aT:bi) (dl:Int):Option ((List (List UInt8)) × (List Target)):=
 (mI F (⟨aT.l,aT.b8,aT.c'⟩:bi) dl).bind fun hA=>
 (EX hA).bind fun g1=>
 Option.bind (α:=(List (List UInt8)) × (List Target)) (tv F aT hA.reverse [] []) fun ((iZ,i_):(List (List UInt8)) × (List Target))=>
 some (iZ,i_)
def k1 (F:Nat) (fw:List ap) (g1:Int × bi) (gy:Int × bi):Nat->(List (List Target))->(List (List (List UInt8)))->(List (List Field))->Int->Option (Way (aH × Int) ((List (List Target)) × (List (List (List UInt8))) × (List (List Field))))
 | 0,_,_,_,_=>none
 | bW+ 1,qN,qO,qP,mP=>
   cond (decide (mP <(fw.length:Int))) ((wj F (⟨fw,g1.2.b8,gy.2.c'⟩:bi) mP).bind fun Qb=>
   (pb F (⟨fw,g1.2.b8,gy.2.c'⟩:bi) mP).bind fun atg=>
   (cq 24 qP [atg]).bind fun XU=>
   (cq 24 qO [Qb.1]).bind fun amN=>
   (cq 24 qN [Qb.2]).bind fun amO=>
   (idx XU mP).bind fun awF=>
   cond ((decide (12 <(awF.length:Int))) || (decide (16 <(Qb.1.length:Int)))) (some (.out ((⟨[],[],[],[],[]⟩:aH),2))) (k1 F fw g1 gy bW amO amN XU (aX (mP+ 1)))) (some (.go (qN,qO,qP)))
def tp (F:Nat) (bf:List ap):Option (aH × Int):=
 (x8 F bf).bind fun rn=>
 cond (!decide (rn= 0)) (some ((⟨[],[],[],[],[]⟩:aH),rn)) ((yi F bf).bind fun fw=>
 (wi F (⟨fw,[],[]⟩:bi)).bind fun g1=>
 cond (!decide (g1.1 = 0)) (some ((⟨[],[],[],[],[]⟩:aH),g1.1)) ((D' F (⟨fw,g1.2.b8,[]⟩:bi)).bind fun gy=>
 cond (!decide (gy.1 = 0)) (some ((⟨[],[],[],[],[]⟩:aH),gy.1)) ((Ea F (⟨fw,g1.2.b8,gy.2.c'⟩:bi)).bind fun yz=>
 cond (!decide (yz= 0)) (some ((⟨[],[],[],[],[]⟩:aH),yz)) ((yh F (⟨fw,g1.2.b8,gy.2.c'⟩:bi)).bind fun k5=>
 cond (!decide (k5= 0)) (some ((⟨[],[],[],[],[]⟩:aH),k5)) ((yg F (⟨fw,g1.2.b8,gy.2.c'⟩:bi)).bind fun dU=>
 cond (!decide (dU= 0)) (some ((⟨[],[],[],[],[]⟩:aH),dU)) ((yf F (⟨fw,g1.2.b8,gy.2.c'⟩:bi)).bind fun aa2=>
 cond (!decide (aa2= 0)) (some ((⟨[],[],[],[],[]⟩:aH),aa2)) (cu (α:=(List (List Target)) × (List (List (List UInt8))) × (List (List Field))) (k1 F fw g1 gy F [] [] [] 0) fun ((N7,N8,N9):(List (List Target)) × (List (List (List UInt8))) × (List (List Field)))=>
 some ((⟨fw,gy.2.c',N9,N8,N7⟩:aH),0))))))))
def uo (bX:List Int) (cp:List Int):Nat->Int->Option (Way (Bool) (Unit))
 | 0,_=>none
 | bW+ 1,c0=>
   cond (decide (c0 <(bX.length:Int))) ((idx bX c0).bind fun kp=>
   (idx cp c0).bind fun kq=>
   cond (!decide (kp=kq)) (some (.out false)) (uo bX cp bW (aX (c0+ 1)))) (some (.go ()))
def yT (F:Nat) (bX:List Int) (cp:List Int):Option (Bool):=
 cond (!decide ((bX.length:Int)=(cp.length:Int))) (some false) (cu (α:=Unit) (uo bX cp F 0) fun (_:Unit)=>
 some true)
def ul (bX:List Field) (cp:List Field):Nat->Int->Option (Way (Bool) (Unit))
 | 0,_=>none
 | bW+ 1,c0=>
   cond (decide (c0 <(bX.length:Int))) ((idx bX c0).bind fun kp=>
   (idx cp c0).bind fun kq=>
   cond (!decide (kp=kq)) (some (.out false)) (ul bX cp bW (aX (c0+ 1)))) (some (.go ()))
def yQ (F:Nat) (bX:List Field) (cp:List Field):Option (Bool):=
 cond (!decide ((bX.length:Int)=(cp.length:Int))) (some false) (cu (α:=Unit) (ul bX cp F 0) fun (_:Unit)=>
 some true)
def ui (F:Nat) (bX:List (List Field)) (cp:List (List Field)):Nat->Int->Option (Way (Bool) (Unit))
 | 0,_=>none
 | bW+ 1,fu=>
   cond (decide (fu <(bX.length:Int))) ((idx bX fu).bind fun Fb=>
   (idx cp fu).bind fun w2=>
   (yQ F Fb w2).bind fun EG=>
   cond (!EG) (some (.out false)) (ui F bX cp bW (aX (fu+ 1)))) (some (.go ()))
def yN (F:Nat) (bX:List (List Field)) (cp:List (List Field)):Option (Bool):=
 cond (!decide ((bX.length:Int)=(cp.length:Int))) (some false) (cu (α:=Unit) (ui F bX cp F 0) fun (_:Unit)=>
 some true)
def uq (bX:List (List UInt8)) (cp:List (List UInt8)):Nat->Int->Option (Way (Bool) (Unit))
 | 0,_=>none
 | bW+ 1,c0=>
   cond (decide (c0 <(bX.length:Int))) ((idx bX c0).bind fun kp=>
   (idx cp c0).bind fun kq=>
   cond (!decide (kp=kq)) (some (.out false)) (uq bX cp bW (aX (c0+ 1)))) (some (.go ()))
def yU (F:Nat) (bX:List (List UInt8)) (cp:List (List UInt8)):Option (Bool):=
 cond (!decide ((bX.length:Int)=(cp.length:Int))) (some false) (cu (α:=Unit) (uq bX cp F 0) fun (_:Unit)=>
 some true)
def uk (F:Nat) (bX:List (List (List UInt8))) (cp:List (List (List UInt8))):Nat->Int->Option (Way (Bool) (Unit))
 | 0,_=>none
 | bW+ 1,fu=>
   cond (decide (fu <(bX.length:Int))) ((idx bX fu).bind fun Fb=>
   (idx cp fu).bind fun w2=>
   (yU F Fb w2).bind fun EG=>
   cond (!EG) (some (.out false)) (uk F bX cp bW (aX (fu+ 1)))) (some (.go ()))
def yP (F:Nat) (bX:List (List (List UInt8))) (cp:List (List (List UInt8))):Option (Bool):=
 cond (!decide ((bX.length:Int)=(cp.length:Int))) (some false) (cu (α:=Unit) (uk F bX cp F 0) fun (_:Unit)=>
 some true)
def um (bX:List Target) (cp:List Target):Nat->Int->Option (Way (Bool) (Unit))
 | 0,_=>none
 | bW+ 1,c0=>
   cond (decide (c0 <(bX.length:Int))) ((idx bX c0).bind fun kp=>
   (idx cp c0).bind fun kq=>
   cond (!decide (kp=kq)) (some (.out false)) (um bX cp bW (aX (c0+ 1)))) (some (.go ()))
def yS (F:Nat) (bX:List Target) (cp:List Target):Option (Bool):=
 cond (!decide ((bX.length:Int)=(cp.length:Int))) (some false) (cu (α:=Unit) (um bX cp F 0) fun (_:Unit)=>
 some true)
def uj (F:Nat) (bX:List (List Target)) (cp:List (List Target)):Nat->Int->Option (Way (Bool) (Unit))
 | 0,_=>none
 | bW+ 1,fu=>
   cond (decide (fu <(bX.length:Int))) ((idx bX fu).bind fun Fb=>
   (idx cp fu).bind fun w2=>
   (yS F Fb w2).bind fun EG=>
   cond (!EG) (some (.out false)) (uj F bX cp bW (aX (fu+ 1)))) (some (.go ()))
def yO (F:Nat) (bX:List (List Target)) (cp:List (List Target)):Option (Bool):=
 cond (!decide ((bX.length:Int)=(cp.length:Int))) (some false) (cu (α:=Unit) (uj F bX cp F 0) fun (_:Unit)=>
 some true)
def wk (F:Nat) (cn:aH) (cE:aH):Option (Bool):=
 (yT F cn.bB cE.bB).bind fun Ql=>
 cond (Ql) ((yN F cn.Fields cE.Fields).bind fun Qm=>
 cond (Qm) ((yP F cn.Names cE.Names).bind fun Qn=>
 cond (Qn) ((yO F cn.bC cE.bC).bind fun atV=>
 some atV) (some false)) (some false)) (some false)
def mH (F:Nat) (a8:aH):Option (Int):=
 (tp F a8.bJ).bind fun g0=>
 cond (!decide (g0.2 = 0)) (some 4) ((wk F (⟨a8.bJ,a8.bB,a8.Fields,a8.Names,a8.bC⟩:aH) (⟨g0.1.bJ,g0.1.bB,g0.1.Fields,g0.1.Names,g0.1.bC⟩:aH)).bind fun atT=>
 cond (!atT) (some 4) (some 0))
def J8:Option (List ap):=
 some [(⟨[79,98,106,101,99,116],[],[],[(⟨[109,97,105,110],true,[],(⟨0,[]⟩:Kind),2,0,[1,0,7,31,27],[]⟩:Method)]⟩:ap),(⟨[69,114,114,111,114],[79,98,106,101,99,116],[(⟨[99,111,100,101],(⟨1,[]⟩:Kind)⟩:Field)],[]⟩:ap)]
end I
namespace I
def pX (F:Nat) (a8:aH):Option (Int):=
 (xl F a8.bJ).bind fun g0=>
 cond (!decide (g0.2 = 0)) (some 4) ((u1 F (⟨a8.bJ,a8.bB,a8.Fields,a8.Names,a8.bC⟩:aH) (⟨g0.1.bJ,g0.1.bB,g0.1.Fields,g0.1.Names,g0.1.bC⟩:aH)).bind fun dU=>
 cond (!dU) (some 4) (some 0))
end I
namespace I
def kT (dl:Int) (D8:Int) (Ef:Int):Option (Bool):=
 some ((decide (D8<=dl)) && (decide (dl<=Ef)))
def MP (JR:Int) (wF:Int):Option (aU × Int):=
 (kT JR 3 2000).bind fun Qo=>
 cond (!Qo) (some ((⟨[],0,0,0,0,[],0⟩:aU),3)) ((kT wF 3 2000).bind fun Qr=>
 cond (!Qr) (some ((⟨[],0,0,0,0,[],0⟩:aU),3)) ((HN (0 :Int) 8 (aX ((aX (1 +JR))+wF))).bind fun anO=>
 some ((⟨anO,JR,wF,1,aX (JR+ 1),[],1⟩:aU),0)))
def oW (s_:bM) (fx:Int):Option (Bool):=
 cond ((decide (fx= 1)) || (decide (fx= 2))) (some true) ((kT fx 3 (aX ((aX (3 +(s_.K.bJ.length:Int))) - 1))).bind fun wI=>
 some wI)
def oX (s_:bM) (fx:Int) (dl:Int):Option (Bool):=
 (kT dl 0 500).bind fun g0=>
 cond (g0) (cond (decide (fx < 3)) (some true) ((idx s_.K.Fields (aX (fx - 3))).bind fun Rs=>
 some (decide (dl=(Rs.length:Int))))) (some false)
def vz (s_:bM) (fx:Int) (dl:Int):Option (Bool):=
 cond (decide (fx= 2)) (some true) (cond (decide (3 <=fx)) ((idx s_.K.Fields (aX (fx - 3))).bind fun Rr=>
 (idx Rr dl).bind fun Ru=>
 some (!decide (Ru.Kind.Kind= 1))) (some false))
def G4 (s_:bM) (fx:Int) (nO:Int):Option (Int):=
 (oW (⟨(⟨s_.K.bJ,s_.K.bB,s_.K.Fields,s_.K.Names,s_.K.bC⟩:aH)⟩:bM) fx).bind fun g0=>
 cond (!g0) (some 7) ((oX (⟨(⟨s_.K.bJ,s_.K.bB,s_.K.Fields,s_.K.Names,s_.K.bC⟩:aH)⟩:bM) fx nO).bind fun g1=>
 cond (!g1) (some 3) (some 0))
def vE (aF:aU):Option (Int):=
 (kT aF.aW 3 2000).bind fun wK=>
 cond (!wK) (some 3) ((kT aF.a9 3 2000).bind fun rp=>
 cond (!rp) (some 3) (cond (!decide ((aF.Words.length:Int)=(aX ((aX (1 +aF.aW))+aF.a9)))) (some 1) ((kT aF.bq 1 (aX (aF.aW+ 1))).bind fun wI=>
 cond (!wI) (some 3) ((kT aF.bm (aX (aF.aW+ 1)) (aX ((aX (aF.aW+aF.a9))+ 1))).bind fun att=>
 cond ((!att) || (decide (aF.Next < 1))) (some 3) (some 0)))))
def vA (aG:bb) (at_:Int):Option (Bool):=
 some ((decide (0 <at_)) && (decide (at_<=aG.H.aW)))
def x2 (aG:bb) (at_:Int):Option (Bool):=
 some ((dL aG.dK at_).getD false)
def lC (hY:Int) (aG:bb):Nat->(List Int)->(List (Int × Bool))->Int->Option (Way ((List Int) × Bool × bb) ((List Int) × (List (Int × Bool))))
 | 0,_,_,_=>none
 | bW+ 1,qR,mL,kc=>
   cond (decide (kc <hY)) (cond (decide (hY <(aX (kc+ 3)))) (some (.out ([],false,(⟨(⟨aG.H.Words,aG.H.aW,aG.H.a9,aG.H.bq,aG.H.bm,aG.H.bg,aG.H.Next⟩:aU),(⟨(⟨aG.S.K.bJ,aG.S.K.bB,aG.S.K.Fields,aG.S.K.Names,aG.S.K.bC⟩:aH)⟩:bM),aG.aW,aG.a9,mL⟩:bb)))) ((idx aG.H.Words kc).bind fun acE=>
   (idx aG.H.Words (aX (kc+ 1))).bind fun Rw=>
   (oW (⟨(⟨aG.S.K.bJ,aG.S.K.bB,aG.S.K.Fields,aG.S.K.Names,aG.S.K.bC⟩:aH)⟩:bM) acE).bind fun atQ=>
   cond (!atQ) (some (.out ([],false,(⟨(⟨aG.H.Words,aG.H.aW,aG.H.a9,aG.H.bq,aG.H.bm,aG.H.bg,aG.H.Next⟩:aU),(⟨(⟨aG.S.K.bJ,aG.S.K.bB,aG.S.K.Fields,aG.S.K.Names,aG.S.K.bC⟩:aH)⟩:bM),aG.aW,aG.a9,mL⟩:bb)))) ((oX (⟨(⟨aG.S.K.bJ,aG.S.K.bB,aG.S.K.Fields,aG.S.K.Names,aG.S.K.bC⟩:aH)⟩:bM) acE Rw).bind fun atS=>
   cond ((!atS) || (decide (hY <(aX ((aX (kc+ 3))+Rw))))) (some (.out ([],false,(⟨(⟨aG.H.Words,aG.H.aW,aG.H.a9,aG.H.bq,aG.H.bm,aG.H.bg,aG.H.Next⟩:aU),(⟨(⟨aG.S.K.bJ,aG.S.K.bB,aG.S.K.Fields,aG.S.K.Names,aG.S.K.bC⟩:aH)⟩:bM),aG.aW,aG.a9,mL⟩:bb)))) ((cq 8 qR [kc]).bind fun ana=>
   lC hY aG bW ana (hT mL kc true) (aX (kc+(aX (3 +Rw)))))))) (some (.go (qR,mL)))
def jp (F:Nat) (aG:bb) (from_:Int) (hY:Int):Option ((List Int) × Bool × bb):=
 cu (α:=(List Int) × (List (Int × Bool))) (lC hY aG F [] aG.dK from_) fun ((am7,an'):(List Int) × (List (Int × Bool)))=>
 some (am7,true,(⟨(⟨aG.H.Words,aG.H.aW,aG.H.a9,aG.H.bq,aG.H.bm,aG.H.bg,aG.H.Next⟩:aU),(⟨(⟨aG.S.K.bJ,aG.S.K.bB,aG.S.K.Fields,aG.S.K.Names,aG.S.K.bC⟩:aH)⟩:bM),aG.aW,aG.a9,an'⟩:bb))
def oY (at_:Int) (aG:bb) (Ju:Int):Nat->(List Int)->Int->Option (List Int)
 | 0,_,_=>none
 | bW+ 1,NY,HX=>
   cond (decide (HX <Ju)) (Option.bind (α:=List Int) ((idx aG.H.Words at_).bind fun axw=>
   (vz (⟨(⟨aG.S.K.bJ,aG.S.K.bB,aG.S.K.Fields,aG.S.K.Names,aG.S.K.bC⟩:aH)⟩:bM) axw HX).bind fun at5=>
   cond (at5) ((cq 8 NY [aX ((aX (at_+ 3))+HX)]).bind fun anh=>
   some anh) (some NY)) fun (anf:List Int)=>
   oY at_ aG Ju bW anf (aX (HX+ 1))) (some NY)
def lB (F:Nat) (aG:bb) (at_:Int):Option (List Int):=
 (idx aG.H.Words (aX (at_+ 1))).bind fun Ju=>
 Option.bind (α:=List Int) (oY at_ aG Ju F [] 0) fun (am':List Int)=>
 some am'
def I0 (dl:Int):Option (List Int):=
 Option.bind (α:=Unit) (cond (decide (dl < 0)) ((none:Option (Unit))) (some ())) fun (_:Unit)=>
 cond (decide (0 <(aX (dl - 0)))) ((CG (0 :Int) 8 (aX (dl - 0))).bind fun azJ=>
 some ([]:List Int)) (some [])
def rv (gb:List (List Int)):Nat->Int->Int->Option (Int)
 | 0,_,_=>none
 | bW+ 1,tD,tE=>
   cond (decide (tE <(gb.length:Int))) (Option.bind (α:=Int) ((idx gb tE).bind fun acA=>
   cond (decide ((aX (tD+(acA.length:Int))) < 0)) ((none:Option (Int))) (some (aX (tD+(acA.length:Int))))) fun (aor:Int)=>
   rv gb bW aor (aX (tE+ 1))) (some tD)
def ry (gb:List (List Int)):Nat->(List Int)->Int->Option (List Int)
 | 0,_,_=>none
 | eo+ 1,v_,tI=>
   cond (decide (tI <(gb.length:Int))) ((idx gb tI).bind fun aw9=>
   (cq 8 v_ aw9).bind fun am9=>
   ry gb eo am9 (aX (tI+ 1))) (some v_)
def wP (F:Nat) (gb:List (List Int)):Option (List Int):=
 Option.bind (α:=Int) (rv gb F 0 0) fun (aoB:Int)=>
 (I0 aoB).bind fun atq=>
 Option.bind (α:=List Int) (ry gb F atq 0) fun (am6:List Int)=>
 some am6
def qw (F:Nat) (aG:bb):Option (List Int):=
 (wP F [aG.aW,aG.a9]).bind fun ga=>
 some ga
def F8 (aT:Int):Option (Bool):=
 some (!decide (aT=aT))
def CN (aT:Int) (RD:Int):Option (Bool):=
 (F8 aT).bind fun atF=>
 cond (atF) ((F8 RD).bind fun rn=>
 some ((!rn) || (decide (aT <RD)))) (some (decide (aT <RD)))
def I2 (aT:Int):Option (Bool):=
 some (!decide (aT=aT))
def pE (oc:Int) (aT:List Int):Nat->Int->Int->Option (Int)
 | 0,_,_=>none
 | bW+ 1,n2,pr=>
   cond (decide (n2 <pr)) (Option.bind (α:=Int × Int) ((idx aT (aX (ru (y1 (aX (n2+pr))) 1))).bind fun Rq=>
   (CN Rq oc).bind fun atm=>
   cond (atm) (some (aX ((aX (ru (y1 (aX (n2+pr))) 1))+ 1),pr)) (some (n2,aX (ru (y1 (aX (n2+pr))) 1)))) fun ((aop,aoq):Int × Int)=>
   pE oc aT bW aop aoq) (some n2)
def yM (F:Nat) (aT:List Int) (oc:Int):Option (Int × Bool):=
 Option.bind (α:=Int) (pE oc aT F 0 (aT.length:Int)) fun (jC:Int)=>
 cond (decide (jC <(aT.length:Int))) ((idx aT jC).bind fun awN=>
 cond (decide (awN=oc)) (some (jC,true)) ((idx aT jC).bind fun awO=>
 (I2 awO).bind fun ato=>
 cond (ato) ((I2 oc).bind fun atp=>
 some (jC,atp)) (some (jC,false)))) (some (jC,false))
end I
namespace I
def qx (aG:bb) (ga:List Int):Nat->(List (Int × Bool))->Int->Option (Way (Int) (List (Int × Bool)))
 | 0,_,_=>none
 | bW+ 1,wo,tW=>
   cond (decide (tW <(ga.length:Int))) ((idx ga tW).bind fun Ro=>
   (idx aG.H.Words (aX (Ro+ 2))).bind fun Rp=>
   cond ((decide (Rp < 1)) || (decide (aG.H.Next<=Rp))) (some (.out 3)) (qx aG ga bW (hT wo Rp true) (aX (tW+ 1)))) (some (.go wo))
def vB (F:Nat) (aG:bb):Option (Int):=
 (qw F (⟨(⟨aG.H.Words,aG.H.aW,aG.H.a9,aG.H.bq,aG.H.bm,aG.H.bg,aG.H.Next⟩:aU),(⟨(⟨aG.S.K.bJ,aG.S.K.bB,aG.S.K.Fields,aG.S.K.Names,aG.S.K.bC⟩:aH)⟩:bM),aG.aW,aG.a9,aG.dK⟩:bb)).bind fun ga=>
 cu (α:=List (Int × Bool)) (qx aG ga F [] 0) fun (lO:List (Int × Bool))=>
 cond (decide ((lO.length:Int) <(aG.dK.length:Int))) (some 6) (some 0)
def G5 (dl:Int):Option (Bool):=
 some (!decide (dl= 0))
def uu (s_:List Int):Nat->Int->Option (Way (Int) (Unit))
 | 0,_=>none
 | bW+ 1,rj=>
   cond (decide (rj <(s_.length:Int))) ((idx s_ rj).bind fun axO=>
   (G5 axO).bind fun aum=>
   cond (aum) (some (.out rj)) (uu s_ bW (aX (rj+ 1)))) (some (.go ()))
def E1 (F:Nat) (s_:List Int):Option (Int):=
 cu (α:=Unit) (uu s_ F 0) fun (_:Unit)=>
 some (-1)
def EZ (F:Nat) (s_:List Int):Option (Bool):=
 (E1 F s_).bind fun hB=>
 some (decide (0 <=hB))
def qz (aG:bb) (lS:List Int):Nat->Int->Option (Way (Int) (Unit))
 | 0,_=>none
 | eo+ 1,q'=>
   cond (decide (q' <(lS.length:Int))) ((idx lS q').bind fun awI=>
   (idx aG.H.Words awI).bind fun acz=>
   cond (!decide (acz= 0)) (cond (!((dL aG.dK acz).getD false)) (some (.out 5)) (qz aG lS eo (aX (q'+ 1)))) (qz aG lS eo (aX (q'+ 1)))) (some (.go ()))
def s0 (F:Nat) (aG:bb) (mX:List Int):Nat->Int->Option (Way (Int) (Unit))
 | 0,_=>none
 | bW+ 1,tV=>
   cond (decide (tV <(mX.length:Int))) (cY (α:=Unit) ((idx mX tV).bind fun awG=>
   (lB F (⟨(⟨aG.H.Words,aG.H.aW,aG.H.a9,aG.H.bq,aG.H.bm,aG.H.bg,aG.H.Next⟩:aU),(⟨(⟨aG.S.K.bJ,aG.S.K.bB,aG.S.K.Fields,aG.S.K.Names,aG.S.K.bC⟩:aH)⟩:bM),aG.aW,aG.a9,aG.dK⟩:bb) awG).bind fun lS=>
   cY (α:=Unit) (qz aG lS F 0) fun (_:Unit)=>
   some (.go ())) fun (_:Unit)=>
   s0 F aG mX bW (aX (tV+ 1))) (some (.go ()))
def vD (F:Nat) (aG:bb):Option (Int):=
 (qw F (⟨(⟨aG.H.Words,aG.H.aW,aG.H.a9,aG.H.bq,aG.H.bm,aG.H.bg,aG.H.Next⟩:aU),(⟨(⟨aG.S.K.bJ,aG.S.K.bB,aG.S.K.Fields,aG.S.K.Names,aG.S.K.bC⟩:aH)⟩:bM),aG.aW,aG.a9,aG.dK⟩:bb)).bind fun mX=>
 cu (α:=Unit) (s0 F aG mX F 0) fun (_:Unit)=>
 (cut aG.H.Words 0 1).bind fun amP=>
 (cut aG.H.Words aG.H.bq (aX (aG.H.aW+ 1))).bind fun amQ=>
 (cut aG.H.Words aG.H.bm (aG.H.Words.length:Int)).bind fun amR=>
 (wP F [amP,amQ,amR]).bind fun atk=>
 (EZ F atk).bind fun atl=>
 cond (atl) (some 1) (some 0)
def Dh (Jo:Int) (eK:bb):Option (Bool):=
 (idx eK.H.Words Jo).bind fun aw1=>
 (vA (⟨(⟨eK.H.Words,eK.H.aW,eK.H.a9,eK.H.bq,eK.H.bm,eK.H.bg,eK.H.Next⟩:aU),(⟨(⟨eK.S.K.bJ,eK.S.K.bB,eK.S.K.Fields,eK.S.K.Names,eK.S.K.bC⟩:aH)⟩:bM),eK.aW,eK.a9,eK.dK⟩:bb) aw1).bind fun Qn=>
 some Qn
def ur (s_:List Int) (cy:bb):Nat->Int->Option (Way (Int) (Unit))
 | 0,_=>none
 | bW+ 1,ii=>
   cond (decide (ii <(s_.length:Int))) ((idx s_ ii).bind fun Rz=>
   (Dh Rz (⟨(⟨cy.H.Words,cy.H.aW,cy.H.a9,cy.H.bq,cy.H.bm,cy.H.bg,cy.H.Next⟩:aU),(⟨(⟨cy.S.K.bJ,cy.S.K.bB,cy.S.K.Fields,cy.S.K.Names,cy.S.K.bC⟩:aH)⟩:bM),cy.aW,cy.a9,cy.dK⟩:bb)).bind fun Qt=>
   cond (Qt) (some (.out ii)) (ur s_ cy bW (aX (ii+ 1)))) (some (.go ()))
def E0 (F:Nat) (s_:List Int) (cy:bb):Option (Int):=
 cu (α:=Unit) (ur s_ cy F 0) fun (_:Unit)=>
 some (-1)
def EY (F:Nat) (s_:List Int) (cy:bb):Option (Bool):=
 (E0 F s_ (⟨(⟨cy.H.Words,cy.H.aW,cy.H.a9,cy.H.bq,cy.H.bm,cy.H.bg,cy.H.Next⟩:aU),(⟨(⟨cy.S.K.bJ,cy.S.K.bB,cy.S.K.Fields,cy.S.K.Names,cy.S.K.bC⟩:aH)⟩:bM),cy.aW,cy.a9,cy.dK⟩:bb)).bind fun EH=>
 some (decide (0 <=EH))
def oZ (F:Nat) (aG:bb):Nat->Int->Option (Way (Int) (Unit))
 | 0,_=>none
 | bW+ 1,nX=>
   cond (decide (nX <(aG.H.bg.length:Int))) ((idx aG.H.bg nX).bind fun l4=>
   cond (decide (0 <nX)) ((idx aG.H.bg (aX (nX - 1))).bind fun awT=>
   cond (decide (l4<=awT)) (some (.out 4)) (cond (!((dL aG.dK l4).getD false)) (some (.out 4)) ((vA (⟨(⟨aG.H.Words,aG.H.aW,aG.H.a9,aG.H.bq,aG.H.bm,aG.H.bg,aG.H.Next⟩:aU),(⟨(⟨aG.S.K.bJ,aG.S.K.bB,aG.S.K.Fields,aG.S.K.Names,aG.S.K.bC⟩:aH)⟩:bM),aG.aW,aG.a9,aG.dK⟩:bb) l4).bind fun Qf=>
   cond (Qf) (some (.out 4)) ((lB F (⟨(⟨aG.H.Words,aG.H.aW,aG.H.a9,aG.H.bq,aG.H.bm,aG.H.bg,aG.H.Next⟩:aU),(⟨(⟨aG.S.K.bJ,aG.S.K.bB,aG.S.K.Fields,aG.S.K.Names,aG.S.K.bC⟩:aH)⟩:bM),aG.aW,aG.a9,aG.dK⟩:bb) l4).bind fun Qg=>
   cond (decide ((Qg.length:Int)= 0)) (some (.out 4)) (oZ F aG bW (aX (nX+ 1))))))) (cond (!((dL aG.dK l4).getD false)) (some (.out 4)) ((vA (⟨(⟨aG.H.Words,aG.H.aW,aG.H.a9,aG.H.bq,aG.H.bm,aG.H.bg,aG.H.Next⟩:aU),(⟨(⟨aG.S.K.bJ,aG.S.K.bB,aG.S.K.Fields,aG.S.K.Names,aG.S.K.bC⟩:aH)⟩:bM),aG.aW,aG.a9,aG.dK⟩:bb) l4).bind fun atB=>
   cond (atB) (some (.out 4)) ((lB F (⟨(⟨aG.H.Words,aG.H.aW,aG.H.a9,aG.H.bq,aG.H.bm,aG.H.bg,aG.H.Next⟩:aU),(⟨(⟨aG.S.K.bJ,aG.S.K.bB,aG.S.K.Fields,aG.S.K.Names,aG.S.K.bC⟩:aH)⟩:bM),aG.aW,aG.a9,aG.dK⟩:bb) l4).bind fun atC=>
   cond (decide ((atC.length:Int)= 0)) (some (.out 4)) (oZ F aG bW (aX (nX+ 1))))))) (some (.go ()))
def qy (F:Nat) (aG:bb):Nat->Int->Option (Way (Int) (Unit))
 | 0,_=>none
 | eo+ 1,rf=>
   cond (decide (rf <(aG.a9.length:Int))) ((idx aG.a9 rf).bind fun acD=>
   (yM F aG.H.bg acD).bind fun atN=>
   cond (!atN.2) ((lB F (⟨(⟨aG.H.Words,aG.H.aW,aG.H.a9,aG.H.bq,aG.H.bm,aG.H.bg,aG.H.Next⟩:aU),(⟨(⟨aG.S.K.bJ,aG.S.K.bB,aG.S.K.Fields,aG.S.K.Names,aG.S.K.bC⟩:aH)⟩:bM),aG.aW,aG.a9,aG.dK⟩:bb) acD).bind fun atO=>
   (EY F atO (⟨(⟨aG.H.Words,aG.H.aW,aG.H.a9,aG.H.bq,aG.H.bm,aG.H.bg,aG.H.Next⟩:aU),(⟨(⟨aG.S.K.bJ,aG.S.K.bB,aG.S.K.Fields,aG.S.K.Names,aG.S.K.bC⟩:aH)⟩:bM),aG.aW,aG.a9,aG.dK⟩:bb)).bind fun atP=>
   cond (atP) (some (.out 4)) (qy F aG eo (aX (rf+ 1)))) (qy F aG eo (aX (rf+ 1)))) (some (.go ()))
def vC (F:Nat) (aG:bb):Option (Int):=
 cu (α:=Unit) (oZ F aG F 0) fun (_:Unit)=>
 cu (α:=Unit) (qy F aG F 0) fun (_:Unit)=>
 some 0
end I
namespace I
def o0 (F:Nat) (aF:aU) (a8:aH):Option ((Option bb) × Int):=
 (vE (⟨aF.Words,aF.aW,aF.a9,aF.bq,aF.bm,aF.bg,aF.Next⟩:aU)).bind fun jE=>
 cond (!decide (jE= 0)) (some ((none:Option bb),jE)) ((jp F (⟨(⟨aF.Words,aF.aW,aF.a9,aF.bq,aF.bm,aF.bg,aF.Next⟩:aU),(⟨(⟨a8.bJ,a8.bB,a8.Fields,a8.Names,a8.bC⟩:aH)⟩:bM),[],[],[]⟩:bb) 1 aF.bq).bind fun ga=>
 (jp F (⟨(⟨aF.Words,aF.aW,aF.a9,aF.bq,aF.bm,aF.bg,aF.Next⟩:aU),(⟨(⟨a8.bJ,a8.bB,a8.Fields,a8.Names,a8.bC⟩:aH)⟩:bM),[],[],ga.2.2.dK⟩:bb) (aX (aF.aW+ 1)) aF.bm).bind fun k5=>
 cond ((!ga.2.1) || (!k5.2.1)) (some ((none:Option bb),1)) ((vB F (⟨(⟨aF.Words,aF.aW,aF.a9,aF.bq,aF.bm,aF.bg,aF.Next⟩:aU),(⟨(⟨a8.bJ,a8.bB,a8.Fields,a8.Names,a8.bC⟩:aH)⟩:bM),ga.1,k5.1,k5.2.2.dK⟩:bb)).bind fun aa3=>
 cond (!decide (aa3= 0)) (some ((none:Option bb),aa3)) ((vD F (⟨(⟨aF.Words,aF.aW,aF.a9,aF.bq,aF.bm,aF.bg,aF.Next⟩:aU),(⟨(⟨a8.bJ,a8.bB,a8.Fields,a8.Names,a8.bC⟩:aH)⟩:bM),ga.1,k5.1,k5.2.2.dK⟩:bb)).bind fun aa4=>
 cond (!decide (aa4= 0)) (some ((none:Option bb),aa4)) ((vC F (⟨(⟨aF.Words,aF.aW,aF.a9,aF.bq,aF.bm,aF.bg,aF.Next⟩:aU),(⟨(⟨a8.bJ,a8.bB,a8.Fields,a8.Names,a8.bC⟩:aH)⟩:bM),ga.1,k5.1,k5.2.2.dK⟩:bb)).bind fun Iz=>
 cond (!decide (Iz= 0)) (some ((none:Option bb),Iz)) (some ((some (⟨(⟨aF.Words,aF.aW,aF.a9,aF.bq,aF.bm,aF.bg,aF.Next⟩:aU),(⟨(⟨a8.bJ,a8.bB,a8.Fields,a8.Names,a8.bC⟩:aH)⟩:bM),ga.1,k5.1,k5.2.2.dK⟩:bb)),0))))))
end I
namespace I
def my (F:Nat) (aF:aU) (a8:aH):Option ((Option bb) × Int):=
 (mH F (⟨a8.bJ,a8.bB,a8.Fields,a8.Names,a8.bC⟩:aH)).bind fun jE=>
 cond (!decide (jE= 0)) (some ((none:Option bb),jE)) ((o0 F (⟨aF.Words,aF.aW,aF.a9,aF.bq,aF.bm,aF.bg,aF.Next⟩:aU) (⟨a8.bJ,a8.bB,a8.Fields,a8.Names,a8.bC⟩:aH)).bind fun g2=>
 some (g2.1,g2.2))
def QZ (s_:List Int):Option (List Int):=
 (cq 8 ([]:List Int) s_).bind fun qS=>
 some qS
def G2 (aF:aU):Option (aU):=
 (QZ aF.Words).bind fun fw=>
 (QZ aF.bg).bind fun g0=>
 some (⟨fw,aF.aW,aF.a9,aF.bq,aF.bm,g0,aF.Next⟩:aU)
def G3 (aF:aU) (fx:Int) (nO:Int) (wF:Bool):Option (Int × Bool × aU):=
 cond (wF) (cond (decide ((aX ((aX ((aX (aF.aW+aF.a9))+ 1)) - aF.bm)) <(aX (3 +nO)))) (some (0,false,(⟨aF.Words,aF.aW,aF.a9,aF.bq,aF.bm,aF.bg,aF.Next⟩:aU))) ((idx aF.Words aF.bm).bind fun az1=>
 (some (aF.Words.set (aF.bm).toNat fx)).bind fun XV=>
 (idx XV (aX (aF.bm+ 1))).bind fun ez=>
 (some (XV.set (aX (aF.bm+ 1)).toNat nO)).bind fun XY=>
 (idx XY (aX (aF.bm+ 2))).bind fun azW=>
 (some (XY.set (aX (aF.bm+ 2)).toNat aF.Next)).bind fun anb=>
 some (aF.bm,true,(⟨anb,aF.aW,aF.a9,aF.bq,aX (aF.bm+(aX (3 +nO))),aF.bg,aX (aF.Next+ 1)⟩:aU)))) (cond (decide ((aX ((aX (aF.aW+ 1)) - aF.bq)) <(aX (3 +nO)))) (some (0,false,(⟨aF.Words,aF.aW,aF.a9,aF.bq,aF.bm,aF.bg,aF.Next⟩:aU))) ((idx aF.Words aF.bq).bind fun azX=>
 (some (aF.Words.set (aF.bq).toNat fx)).bind fun X0=>
 (idx X0 (aX (aF.bq+ 1))).bind fun azY=>
 (some (X0.set (aX (aF.bq+ 1)).toNat nO)).bind fun X1=>
 (idx X1 (aX (aF.bq+ 2))).bind fun azZ=>
 (some (X1.set (aX (aF.bq+ 2)).toNat aF.Next)).bind fun anz=>
 some (aF.bq,true,(⟨anz,aF.aW,aF.a9,aX (aF.bq+(aX (3 +nO))),aF.bm,aF.bg,aX (aF.Next+ 1)⟩:aU))))
def MO (F:Nat) (aF:aU) (a8:aH) (fx:Int) (nO:Int) (wF:Bool):Option (aU × Int × Int):=
 (my F (⟨aF.Words,aF.aW,aF.a9,aF.bq,aF.bm,aF.bg,aF.Next⟩:aU) (⟨a8.bJ,a8.bB,a8.Fields,a8.Names,a8.bC⟩:aH)).bind fun gy=>
 Option.bind (α:=Int) (cond (decide (gy.2 = 0)) ((gy.1).bind fun Fc=>
 (G4 (⟨(⟨Fc.S.K.bJ,Fc.S.K.bB,Fc.S.K.Fields,Fc.S.K.Names,Fc.S.K.bC⟩:aH)⟩:bM) fx nO).bind fun at9=>
 some at9) (some gy.2)) fun (Z7:Int)=>
 cond (!decide (Z7= 0)) (some ((⟨[],0,0,0,0,[],0⟩:aU),0,Z7)) ((G2 (⟨aF.Words,aF.aW,aF.a9,aF.bq,aF.bm,aF.bg,aF.Next⟩:aU)).bind fun py=>
 (G3 (⟨py.Words,py.aW,py.a9,py.bq,py.bm,py.bg,py.Next⟩:aU) fx nO wF).bind fun yB=>
 cond (!yB.2.1) (some ((⟨[],0,0,0,0,[],0⟩:aU),0,8)) (some ((⟨yB.2.2.Words,py.aW,py.a9,yB.2.2.bq,yB.2.2.bm,py.bg,yB.2.2.Next⟩:aU),yB.1,0)))
end I
namespace I
def CD (cn:List Int) (cE:List Int):Nat->Int->Option (Way (Bool) (Unit))
 | 0,_=>none
 | bW+ 1,c0=>
   cond (decide (c0 <(cn.length:Int))) ((idx cn c0).bind fun kp=>
   (idx cE c0).bind fun kq=>
   cond (!decide (kp=kq)) (some (.out false)) (CD cn cE bW (aX (c0+ 1)))) (some (.go ()))
def CC (F:Nat) (cn:List Int) (cE:List Int):Option (Bool):=
 cond (!decide ((cn.length:Int)=(cE.length:Int))) (some false) (cu (α:=Unit) (CD cn cE F 0) fun (_:Unit)=>
 some true)
def FN (F:Nat) (cn:aU) (cE:aU):Option (Bool):=
 (CC F cn.Words cE.Words).bind fun atj=>
 cond ((((atj && (decide (cn.aW=cE.aW))) && (decide (cn.a9=cE.a9))) && (decide (cn.bq=cE.bq))) && (decide (cn.bm=cE.bm))) ((CC F cn.bg cE.bg).bind fun Qc=>
 some (Qc && (decide (cn.Next=cE.Next)))) (some false)
def J9 (F:Nat) (aF:aU) (e_:Int) (Jo:Int) (wX:aU):Option (Bool):=
 Option.bind (α:=(List Int) × Int × Int × Int × Int × (List Int) × Int) (cond (!decide (Jo= 0)) (some ([],0,0,0,0,[],0)) (some (wX.Words,wX.aW,wX.a9,wX.bq,wX.bm,wX.bg,wX.Next))) fun ((amS,aos,aot,aou,aov,am5,aoy):(List Int) × Int × Int × Int × Int × (List Int) × Int)=>
 cond (decide (e_=Jo)) ((FN F (⟨aF.Words,aF.aW,aF.a9,aF.bq,aF.bm,aF.bg,aF.Next⟩:aU) (⟨amS,aos,aot,aou,aov,am5,aoy⟩:aU)).bind fun Qm=>
 some Qm) (some false)
end I
namespace I
def uW (a8:aH) (fx:Int):Option (Bool):=
 some ((decide (1 <=fx)) && (decide (fx <(aX (3 +(a8.bJ.length:Int))))))
def uU (a8:aH) (fx:Int) (dl:Int):Option (Bool):=
 (e3 dl 0 500).bind fun g0=>
 cond (g0) (cond (decide (fx < 3)) (some true) ((idx a8.Fields (aX (fx - 3))).bind fun Rs=>
 some (decide (dl=(Rs.length:Int))))) (some false)
def u2 (a8:aH) (fx:Int) (dl:Int):Option (Bool):=
 cond (decide (fx= 2)) (some true) (cond (decide (3 <=fx)) ((idx a8.Fields (aX (fx - 3))).bind fun Rr=>
 (idx Rr dl).bind fun Ru=>
 some (!decide (Ru.Kind.Kind= 1))) (some false))
def pZ (aF:aU) (a8:aH) (hY:Int):Nat->(List Int)->Int->Option (Way ((List Int) × Bool) ((List Int) × Int))
 | 0,_,_=>none
 | bW+ 1,XZ,ri=>
   cond (decide (ri <hY)) (cond (decide (hY <(aX (ri+ 3)))) (some (.out ([],false))) ((idx aF.Words ri).bind fun axm=>
   (uW (⟨a8.bJ,a8.bB,a8.Fields,a8.Names,a8.bC⟩:aH) axm).bind fun at1=>
   cond (!at1) (some (.out ([],false))) ((idx aF.Words ri).bind fun axr=>
   (idx aF.Words (aX (ri+ 1))).bind fun axt=>
   (uU (⟨a8.bJ,a8.bB,a8.Fields,a8.Names,a8.bC⟩:aH) axr axt).bind fun at4=>
   cond (!at4) (some (.out ([],false))) ((cq 8 XZ [ri]).bind fun ang=>
   (idx aF.Words (aX (ri+ 1))).bind fun axA=>
   pZ aF a8 hY bW ang (aX (ri+(aX (3 +axA)))))))) (some (.go (XZ,ri)))
def mg (F:Nat) (aF:aU) (a8:aH) (from_:Int) (hY:Int):Option ((List Int) × Bool):=
 cu (α:=(List Int) × Int) (pZ aF a8 hY F [] from_) fun ((am_,aoz):(List Int) × Int)=>
 some (am_,decide (aoz=hY))
def sj (bf:List Int) (dl:Int):Nat->Int->Option (Way (Bool) (Unit))
 | 0,_=>none
 | bW+ 1,hU=>
   cond (decide (hU <(bf.length:Int))) ((idx bf hU).bind fun Ff=>
   cond (decide (Ff=dl)) (some (.out true)) (sj bf dl bW (aX (hU+ 1)))) (some (.go ()))
def mf (F:Nat) (bf:List Int) (dl:Int):Option (Bool):=
 cu (α:=Unit) (sj bf dl F 0) fun (_:Unit)=>
 some false
def oC (at_:Int) (aF:aU) (a8:aH):Nat->(List Int)->Int->Option (List Int)
 | 0,_,_=>none
 | bW+ 1,NZ,HZ=>
   (idx aF.Words (aX (at_+ 1))).bind fun axC=>
   cond (decide (HZ <axC)) (Option.bind (α:=List Int) ((idx aF.Words at_).bind fun axD=>
   (u2 (⟨a8.bJ,a8.bB,a8.Fields,a8.Names,a8.bC⟩:aH) axD HZ).bind fun at7=>
   cond (at7) ((cq 8 NZ [aX ((aX (at_+ 3))+HZ)]).bind fun anj=>
   some anj) (some NZ)) fun (ani:List Int)=>
   oC at_ aF a8 bW ani (aX (HZ+ 1))) (some NZ)
def ni (F:Nat) (aF:aU) (a8:aH) (at_:Int):Option (List Int):=
 Option.bind (α:=List Int) (oC at_ aF a8 F [] 0) fun (anc:List Int)=>
 some anc
def oF (F:Nat) (aF:aU) (a8:aH):Option ((List Int) × (List Int) × Bool):=
 (mg F (⟨aF.Words,aF.aW,aF.a9,aF.bq,aF.bm,aF.bg,aF.Next⟩:aU) (⟨a8.bJ,a8.bB,a8.Fields,a8.Names,a8.bC⟩:aH) 1 aF.bq).bind fun jE=>
 (mg F (⟨aF.Words,aF.aW,aF.a9,aF.bq,aF.bm,aF.bg,aF.Next⟩:aU) (⟨a8.bJ,a8.bB,a8.Fields,a8.Names,a8.bC⟩:aH) (aX (aF.aW+ 1)) aF.bm).bind fun ga=>
 some (jE.1,ga.1,jE.2 && ga.2)
end I
namespace I
def r1 (aF:aU) (gN:List Int):Nat->Int->Option (Way (Int) (Unit))
 | 0,_=>none
 | bW+ 1,Ox=>
   cond (decide (Ox <(gN.length:Int))) ((idx gN Ox).bind fun Rq=>
   (idx aF.Words (aX (Rq+ 2))).bind fun w2=>
   (e3 w2 1 (aX (aF.Next - 1))).bind fun atn=>
   cond (!atn) (some (.out 3)) (r1 aF gN bW (aX (Ox+ 1)))) (some (.go ()))
def r2 (aF:aU) (gN:List Int) (wA:Int):Nat->Int->Option (Way (Int) (Unit))
 | 0,_=>none
 | gM+ 1,Oy=>
   cond (decide (Oy <wA)) ((idx gN wA).bind fun awJ=>
   (idx aF.Words (aX (awJ+ 2))).bind fun awK=>
   (idx gN Oy).bind fun awL=>
   (idx aF.Words (aX (awL+ 2))).bind fun awM=>
   cond (decide (awK=awM)) (some (.out 6)) (r2 aF gN wA gM (aX (Oy+ 1)))) (some (.go ()))
def pS (F:Nat) (aF:aU) (gN:List Int):Nat->Int->Option (Way (Int) (Unit))
 | 0,_=>none
 | eo+ 1,wA=>
   cond (decide (wA <(gN.length:Int))) (cY (α:=Unit) (cY (α:=Unit) (r2 aF gN wA F 0) fun (_:Unit)=>
   some (.go ())) fun (_:Unit)=>
   pS F aF gN eo (aX (wA+ 1))) (some (.go ()))
def pT (F:Nat) (aF:aU) (gN:List Int) (wJ:List Int):Nat->Int->Option (Way (Int) (Unit))
 | 0,_=>none
 | o7+ 1,Eh=>
   cond (decide (Eh <(wJ.length:Int))) ((idx wJ Eh).bind fun axe=>
   (idx aF.Words axe).bind fun axf=>
   cond (!decide (axf= 0)) ((idx wJ Eh).bind fun axh=>
   (idx aF.Words axh).bind fun axj=>
   (mf F gN axj).bind fun atZ=>
   cond (!atZ) (some (.out 5)) (pT F aF gN wJ o7 (aX (Eh+ 1)))) (pT F aF gN wJ o7 (aX (Eh+ 1)))) (some (.go ()))
def r3 (F:Nat) (aF:aU) (a8:aH) (gN:List Int):Nat->Int->Option (Way (Int) (Unit))
 | 0,_=>none
 | jx+ 1,OH=>
   cond (decide (OH <(gN.length:Int))) (cY (α:=Unit) ((idx gN OH).bind fun axb=>
   (ni F (⟨aF.Words,aF.aW,aF.a9,aF.bq,aF.bm,aF.bg,aF.Next⟩:aU) (⟨a8.bJ,a8.bB,a8.Fields,a8.Names,a8.bC⟩:aH) axb).bind fun wJ=>
   cY (α:=Unit) (pT F aF gN wJ F 0) fun (_:Unit)=>
   some (.go ())) fun (_:Unit)=>
   r3 F aF a8 gN jx (aX (OH+ 1))) (some (.go ()))
def ox (aF:aU):Nat->Int->Option (Way (Int) (Unit))
 | 0,_=>none
 | tj+ 1,ww=>
   cond (decide (ww <(aF.Words.length:Int))) ((idx aF.Words ww).bind fun axl=>
   cond (!decide (axl= 0)) (cond (decide (ww= 0)) (some (.out 1)) ((e3 ww aF.bq aF.aW).bind fun at0=>
   cond (at0 || (decide (aF.bm<=ww))) (some (.out 1)) (ox aF tj (aX (ww+ 1))))) (ox aF tj (aX (ww+ 1)))) (some (.go ()))
def mc (F:Nat) (aF:aU) (a8:aH) (dU:(List Int) × (List Int) × Bool):Nat->Int->Option (Way (Int) (Unit))
 | 0,_=>none
 | Hv+ 1,i'=>
   cond (decide (i' <(aF.bg.length:Int))) (cond (decide (0 <i')) ((idx aF.bg i').bind fun axn=>
   (idx aF.bg (aX (i' - 1))).bind fun axo=>
   cond (decide (axn<=axo)) (some (.out 4)) ((idx aF.bg i').bind fun axp=>
   (mf F dU.2.1 axp).bind fun Qp=>
   cond (!Qp) (some (.out 4)) ((idx aF.bg i').bind fun Rx=>
   (ni F (⟨aF.Words,aF.aW,aF.a9,aF.bq,aF.bm,aF.bg,aF.Next⟩:aU) (⟨a8.bJ,a8.bB,a8.Fields,a8.Names,a8.bC⟩:aH) Rx).bind fun Qq=>
   cond (decide ((Qq.length:Int)= 0)) (some (.out 4)) (mc F aF a8 dU Hv (aX (i'+ 1)))))) ((idx aF.bg i').bind fun axq=>
   (mf F dU.2.1 axq).bind fun at2=>
   cond (!at2) (some (.out 4)) ((idx aF.bg i').bind fun axs=>
   (ni F (⟨aF.Words,aF.aW,aF.a9,aF.bq,aF.bm,aF.bg,aF.Next⟩:aU) (⟨a8.bJ,a8.bB,a8.Fields,a8.Names,a8.bC⟩:aH) axs).bind fun at3=>
   cond (decide ((at3.length:Int)= 0)) (some (.out 4)) (mc F aF a8 dU Hv (aX (i'+ 1)))))) (some (.go ()))
def nf (F:Nat) (aF:aU) (dU:(List Int) × (List Int) × Bool) (hd:Int) (lU:List Int):Nat->Int->Option (Way (Int) (Unit))
 | 0,_=>none
 | Hw+ 1,nZ=>
   cond (decide (nZ <(lU.length:Int))) ((idx lU nZ).bind fun axP=>
   (idx aF.Words axP).bind fun axQ=>
   (e3 axQ 1 aF.aW).bind fun aui=>
   cond (aui) ((idx dU.2.1 hd).bind fun axR=>
   (mf F aF.bg axR).bind fun auj=>
   cond (!auj) (some (.out 4)) (nf F aF dU hd lU Hw (aX (nZ+ 1)))) (nf F aF dU hd lU Hw (aX (nZ+ 1)))) (some (.go ()))
def oy (F:Nat) (aF:aU) (a8:aH) (dU:(List Int) × (List Int) × Bool):Nat->Int->Option (Way (Int) (Unit))
 | 0,_=>none
 | NS+ 1,hd=>
   cond (decide (hd <(dU.2.1.length:Int))) (cY (α:=Unit) ((idx dU.2.1 hd).bind fun axN=>
   (ni F (⟨aF.Words,aF.aW,aF.a9,aF.bq,aF.bm,aF.bg,aF.Next⟩:aU) (⟨a8.bJ,a8.bB,a8.Fields,a8.Names,a8.bC⟩:aH) axN).bind fun lU=>
   cY (α:=Unit) (nf F aF dU hd lU F 0) fun (_:Unit)=>
   some (.go ())) fun (_:Unit)=>
   oy F aF a8 dU NS (aX (hd+ 1))) (some (.go ()))
def uT (F:Nat) (aF:aU) (a8:aH):Option (Int):=
 (e3 aF.aW 3 2000).bind fun jE=>
 cond (!jE) (some 3) ((e3 aF.a9 3 2000).bind fun g2=>
 cond (!g2) (some 3) (cond (!decide ((aF.Words.length:Int)=(aX ((aX (1 +aF.aW))+aF.a9)))) (some 1) ((e3 aF.bq 1 (aX (aF.aW+ 1))).bind fun yz=>
 cond (!yz) (some 3) ((e3 aF.bm (aX (aF.aW+ 1)) (aX ((aX (aF.aW+aF.a9))+ 1))).bind fun k5=>
 cond ((!k5) || (decide (aF.Next < 1))) (some 3) ((oF F (⟨aF.Words,aF.aW,aF.a9,aF.bq,aF.bm,aF.bg,aF.Next⟩:aU) (⟨a8.bJ,a8.bB,a8.Fields,a8.Names,a8.bC⟩:aH)).bind fun dU=>
 cond (!dU.2.2) (some 1) ((cq 8 ([]:List Int) dU.1).bind fun ane=>
 (cq 8 ane dU.2.1).bind fun gN=>
 cu (α:=Unit) (r1 aF gN F 0) fun (_:Unit)=>
 cu (α:=Unit) (pS F aF gN F 0) fun (_:Unit)=>
 cu (α:=Unit) (r3 F aF a8 gN F 0) fun (_:Unit)=>
 cu (α:=Unit) (ox aF F 0) fun (_:Unit)=>
 cu (α:=Unit) (mc F aF a8 dU F 0) fun (_:Unit)=>
 cu (α:=Unit) (oy F aF a8 dU F 0) fun (_:Unit)=>
 some 0))))))
def uY (F:Nat) (aF:aU) (a8:aH):Option (Int):=
 (pX F (⟨a8.bJ,a8.bB,a8.Fields,a8.Names,a8.bC⟩:aH)).bind fun jE=>
 cond (decide (jE= 0)) ((uT F (⟨aF.Words,aF.aW,aF.a9,aF.bq,aF.bm,aF.bg,aF.Next⟩:aU) (⟨a8.bJ,a8.bB,a8.Fields,a8.Names,a8.bC⟩:aH)).bind fun g2=>
 some g2) (some jE)
end I
namespace I
def w7 (aF:aU):Option (Int):=
 some (aX ((aX ((aX ((aX (aF.aW+aF.a9))+ 1)) - aF.bm)) - (aX (aF.bq - 1))))
def Fp (F:Nat) (aF:aU) (a8:aH):Option (Int × Int):=
 (my F (⟨aF.Words,aF.aW,aF.a9,aF.bq,aF.bm,aF.bg,aF.Next⟩:aU) (⟨a8.bJ,a8.bB,a8.Fields,a8.Names,a8.bC⟩:aH)).bind fun jE=>
 cond (!decide (jE.2 = 0)) (some (0,jE.2)) ((w7 (⟨aF.Words,aF.aW,aF.a9,aF.bq,aF.bm,aF.bg,aF.Next⟩:aU)).bind fun Iz=>
 some (Iz,0))
def uX (aF:aU):Option (Int):=
 some (aX ((aX ((aX ((aX ((aX (aF.aW+aF.a9))+ 1)) - aF.bm)) - aF.bq))+ 1))
end I
namespace I
def JS (at_:Int) (eK:bb):Option (Bool):=
 cond (!decide (at_= 0)) ((x2 (⟨(⟨eK.H.Words,eK.H.aW,eK.H.a9,eK.H.bq,eK.H.bm,eK.H.bg,eK.H.Next⟩:aU),(⟨(⟨eK.S.K.bJ,eK.S.K.bB,eK.S.K.Fields,eK.S.K.Names,eK.S.K.bC⟩:aH)⟩:bM),eK.aW,eK.a9,eK.dK⟩:bb) at_).bind fun yz=>
 some (!yz)) (some false)
def E2 (s_:List Int) (cy:bb):Nat->Int->Option (Way (Int) (Unit))
 | 0,_=>none
 | bW+ 1,ii=>
   cond (decide (ii <(s_.length:Int))) ((idx s_ ii).bind fun Rz=>
   (JS Rz (⟨(⟨cy.H.Words,cy.H.aW,cy.H.a9,cy.H.bq,cy.H.bm,cy.H.bg,cy.H.Next⟩:aU),(⟨(⟨cy.S.K.bJ,cy.S.K.bB,cy.S.K.Fields,cy.S.K.Names,cy.S.K.bC⟩:aH)⟩:bM),cy.aW,cy.a9,cy.dK⟩:bb)).bind fun Qt=>
   cond (Qt) (some (.out ii)) (E2 s_ cy bW (aX (ii+ 1)))) (some (.go ()))
def I1 (F:Nat) (s_:List Int) (cy:bb):Option (Int):=
 cu (α:=Unit) (E2 s_ cy F 0) fun (_:Unit)=>
 some (-1)
def IZ (F:Nat) (s_:List Int) (cy:bb):Option (Bool):=
 (I1 F s_ (⟨(⟨cy.H.Words,cy.H.aW,cy.H.a9,cy.H.bq,cy.H.bm,cy.H.bg,cy.H.Next⟩:aU),(⟨(⟨cy.S.K.bJ,cy.S.K.bB,cy.S.K.Fields,cy.S.K.Names,cy.S.K.bC⟩:aH)⟩:bM),cy.aW,cy.a9,cy.dK⟩:bb)).bind fun EH=>
 some (decide (0 <=EH))
def RH (F:Nat) (aG:bb) (hk:List Int):Option (Int):=
 cond (decide (1000 <(hk.length:Int))) (some 2) ((IZ F hk (⟨(⟨aG.H.Words,aG.H.aW,aG.H.a9,aG.H.bq,aG.H.bm,aG.H.bg,aG.H.Next⟩:aU),(⟨(⟨aG.S.K.bJ,aG.S.K.bB,aG.S.K.Fields,aG.S.K.Names,aG.S.K.bC⟩:aH)⟩:bM),aG.aW,aG.a9,aG.dK⟩:bb)).bind fun EH=>
 cond (EH) (some 5) (some 0))
def pY (F:Nat) (hk:List Int) (g2:(List Int) × (List Int) × Bool):Nat->Int->Option (Way (Int) (Unit))
 | 0,_=>none
 | bW+ 1,k2=>
   cond (decide (k2 <(hk.length:Int))) ((idx hk k2).bind fun awP=>
   cond (!decide (awP= 0)) ((idx hk k2).bind fun awS=>
   (mf F g2.1 awS).bind fun atv=>
   cond (!atv) ((idx hk k2).bind fun awZ=>
   (mf F g2.2.1 awZ).bind fun atA=>
   cond (!atA) (some (.out 5)) (pY F hk g2 bW (aX (k2+ 1)))) (pY F hk g2 bW (aX (k2+ 1)))) (pY F hk g2 bW (aX (k2+ 1)))) (some (.go ()))
def FM (F:Nat) (aF:aU) (a8:aH) (hk:List Int):Option (Int):=
 cond (decide (1000 <(hk.length:Int))) (some 2) ((oF F (⟨aF.Words,aF.aW,aF.a9,aF.bq,aF.bm,aF.bg,aF.Next⟩:aU) (⟨a8.bJ,a8.bB,a8.Fields,a8.Names,a8.bC⟩:aH)).bind fun g2=>
 cu (α:=Unit) (pY F hk g2 F 0) fun (_:Unit)=>
 some 0)
def J_ (F:Nat) (aF:aU) (a8:aH) (hk:List Int):Option (Int):=
 (uY F (⟨aF.Words,aF.aW,aF.a9,aF.bq,aF.bm,aF.bg,aF.Next⟩:aU) (⟨a8.bJ,a8.bB,a8.Fields,a8.Names,a8.bC⟩:aH)).bind fun aa1=>
 cond (decide (aa1= 0)) ((FM F (⟨aF.Words,aF.aW,aF.a9,aF.bq,aF.bm,aF.bg,aF.Next⟩:aU) (⟨a8.bJ,a8.bB,a8.Fields,a8.Names,a8.bC⟩:aH) hk).bind fun ga=>
 some ga) (some aa1)
end I
namespace Go.Proofs.YteeliipnilghaaaGreat
open Go Go.RowKit ay I bK
@[reducible] noncomputable def Xm (F:Nat):bS aQ:=⟨[.p (.B 0),.p (.i .i64)],[.c 117 [.l 134,.M 1,.l 3],.m 9 3],[.p (.R 2)],[.c 117 [.l 134,.M 1,.l 3],.m 9 3,.r 136 false],List I.Field,
  fun d=>pb F ⟨d.2.1.1,d.2.2.1,d.2.1.2.2.1⟩ d.1.2.1,fun d r=>(((),()),((d.2.1.1,(),d.2.1.2.2.1,()),d.2.2.1,r,()))⟩
@[reducible] noncomputable def Xq (F:Nat):bS aQ:=⟨[.p (.B 0),.p (.i .i64)],[.c 117 [.l 134,.M 1,.l 3],.m 9 3],[.p (.R 2),.p (.R 3)],[.c 117 [.l 134,.M 1,.l 3],.m 9 3,.r 9 false,.r 166 false],List (List UInt8) × List I.Target,
  fun d=>wj F ⟨d.2.1.1,d.2.2.1,d.2.1.2.2.1⟩ d.1.2.1,fun d r=>(((),(),()),((d.2.1.1,(),d.2.1.2.2.1,()),d.2.2.1,r.1,r.2,()))⟩
noncomputable def rT (F:Nat):a2 ad:=⟨(83,(Xm F).run ad)::(82,(Xq F).run ad)::adj.ce,[]⟩
end Go.Proofs.YteeliipnilghaaaGreat
