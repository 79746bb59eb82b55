/- Part 4 of the proof that is ended in the last text: small logic, what the functions compute, walks, plain laws. -/
import Derived.Test.YteeliipnilghaaaGreatFl3
import Derived.Test.YteeliipnilghaaaGreatChecked
import Derived.KernelRfl
namespace bn
open Go Go.RowKit au J
structure hx (T:bT) where
 bt:List cO
 pbs:List bI
 eF:List cO
 dB:List bI
 R:Type
 fn:dp T.El bt × cF T.El pbs->Option R
 mi:dp T.El bt × cF T.El pbs->R->dp T.El eF × cF T.El dB
def hx.ha {T:bT} (c:hx T):eg T:=⟨c.bt,c.pbs,c.eF,c.dB,fun d=>(c.fn d).map (c.mi d)⟩
def hx.run (E:Env) (c:hx E.T) (ys:List (aF E.T.El)) (bl:List (aC E.T.El)):D (fa E.T.El):=match gu [] c.bt c.pbs bl ys with
 | (bY,cL)=>match jA c.pbs c.dB,hN bY [] false c.bt c.pbs cL with
   | true,some (d,sel)=>.op (c.fn d) fun r=>.ok ⟨.ret (oP (fR (iA sel bY.length) (fj bY sel c.dB) c.eF (c.mi d r).1)),fX bY sel c.dB (c.mi d r).2,sel⟩
   | _,_=>.no
def hx.ao8 {T:bT} (c:hx T) (d:dp T.El c.bt × cF T.El c.pbs) (r:c.R):dp T.El c.eF × cF T.El c.dB:=c.mi d r
def hx.Eq (E:Env) (br:e6 E) (LE:j5 E) (f:Nat) (c:hx E.T):Prop:=∀ (ay:dp E.T.El c.bt) (az:cF E.T.El c.pbs),(mw E br LE f (fR id (cm false c.pbs) c.bt ay) (bP id (cm false c.pbs) false c.pbs az)).run c.ha.fin=(c.fn (ay,az)).map (c.ao8 (ay,az))
structure fW (T:bT) (bt:List cO) (pbs:List bI) where
 w:j7
 R:Type
 mi:dp T.El bt × cF T.El pbs->R->Ek T.El w
@[reducible] def Ev {T:bT} {bt:List cO} {pbs:List bI}:List (fW T bt pbs)->Type
  | []=>Empty
  | [w]=>w.R
  | w::v::r=>w.R ⊕ Ev (v::r)
@[reducible] def DG {T:bT} {bt:List cO} {pbs:List bI}:List (fW T bt pbs)->List j7
  | []=>[]
  | w::r=>w.w::DG r
def bR {T:bT} {bt:List cO} {pbs:List bI} (d:dp T.El bt × cF T.El pbs):(ws:List (fW T bt pbs))->Ev ws->vb T.El (DG ws)
 | [],r=>r.elim
 | [w],r=>w.mi d r
 | w::v::ws,r=>match r with
   | .inl a=>.inl (w.mi d a)
   | .inr b=>.inr (bR d (v::ws) b)
structure bJ (T:bT) where
 e8:List Nat
 bt:List cO
 pbs:List bI
 ws:List (fW T bt pbs)
 fn:Nat->dp T.El bt × cF T.El pbs->Option (Ev ws)
def bJ.rC {T:bT} (c:bJ T):fI T:=⟨c.e8,c.bt,c.pbs,DG c.ws,fun k d=>(c.fn k d).map fun r=>bR d c.ws r⟩
def TZ (E:Env) {bt:List cO} {pbs:List bI} (bl:List (aC E.T.El)) (sel us:List Nat) (d:dp E.T.El bt × cF E.T.El pbs):(ws:List (fW E.T bt pbs))->Option (Ev ws)->D (cf E.T.El)
 | [],_=>.no
 | [w],o=>.op o fun r=>LS E bl sel us w.w (w.mi d r)
 | w::v::ws,o=>.r7 o (fun r=>LS E bl sel us w.w (w.mi d r)) (fun q=>TZ E bl sel us d (v::ws) (some q))
def bJ.run (E:Env) (F:Nat) (c:bJ E.T) (s:eG E.T.El):D (cf E.T.El):=match nJ E s.bl s.f [] (c.e8.map .tmp) with
 | some ys=>match gu [] c.bt c.pbs s.bl ys with
   | (bY,cL)=>match C5 c.pbs (DG c.ws) && (jA c.pbs c.pbs && qc c.pbs c.pbs),hN bY [] false c.bt c.pbs cL with
     | true,some (d,sel)=>TZ E bY sel s.ws d c.ws (c.fn F d)
     | _,_=>.no
 | none=>.no
noncomputable def cU.sY {E:Env} (t:cU E) (g:Nat) (c:hx E.T):cU E:=t.f g fun ys bl=>match c.ha.fit E ys bl with
 | true=>c.run E ys bl
 | false=>t.br g ys bl
noncomputable def cU.Gm {E:Env} (t:cU E) (g i:Nat) (c:bJ E.T) (F:Nat):cU E:=t.l g i fun s=>match c.rC.fit E s with
 | true=>c.run E F s
 | false=>match t.LE g i with
   | some h=>h s
   | none=>.no
structure BO (T:bT) (bt:List cO) (pbs:List bI) where
 w:ln
 R:Type
 mi:dp T.El bt × cF T.El pbs->R->Bx T.El w
@[reducible] def Eu {T:bT} {bt:List cO} {pbs:List bI}:List (BO T bt pbs)->Type
  | []=>Empty
  | [w]=>w.R
  | w::v::r=>w.R ⊕ Eu (v::r)
@[reducible] def Hb {T:bT} {bt:List cO} {pbs:List bI}:List (BO T bt pbs)->List ln
  | []=>[]
  | w::r=>w.w::Hb r
def B6 {T:bT} {bt:List cO} {pbs:List bI} (d:dp T.El bt × cF T.El pbs):(ws:List (BO T bt pbs))->Eu ws->va T.El (Hb ws)
 | [],r=>r.elim
 | [w],r=>w.mi d r
 | w::v::ws,r=>match r with
   | .inl a=>.inl (w.mi d a)
   | .inr b=>.inr (B6 d (v::ws) b)
structure po (T:bT) where
 bt:List cO
 pbs:List bI
 ws:List (BO T bt pbs)
 fn:dp T.El bt × cF T.El pbs->Option (Eu ws)
def po.ii {T:bT} (c:po T):jJ T:=⟨c.bt,c.pbs,Hb c.ws,fun d=>(c.fn d).map fun r=>B6 d c.ws r⟩
def Vj (E:Env) {bt:List cO} {pbs:List bI} (bl:List (aC E.T.El)) (sel:List Nat) (d:dp E.T.El bt × cF E.T.El pbs):(ws:List (BO E.T bt pbs))->Option (Eu ws)->D (fa E.T.El)
 | [],_=>.no
 | [w],o=>.op o fun r=>G9 E bl sel w.w (w.mi d r)
 | w::v::ws,o=>.r7 o (fun r=>G9 E bl sel w.w (w.mi d r)) (fun q=>Vj E bl sel d (v::ws) (some q))
def po.run (E:Env) (c:po E.T) (ys:List (aF E.T.El)) (bl:List (aC E.T.El)):D (fa E.T.El):=match gu [] c.bt c.pbs bl ys with
 | (bY,cL)=>match GB c.pbs (Hb c.ws),hN bY [] false c.bt c.pbs cL with
   | true,some (d,sel)=>Vj E bY sel d c.ws (c.fn d)
   | _,_=>.no
def po.Eq (E:Env) (br:e6 E) (LE:j5 E) (f:Nat) (c:po E.T):Prop:=∀ (ay:dp E.T.El c.bt) (az:cF E.T.El c.pbs),(mw E br LE f (fR id (cm false c.pbs) c.bt ay) (bP id (cm false c.pbs) false c.pbs az)).run c.ii.fin=(c.fn (ay,az)).map fun r=>B6 (ay,az) c.ws r
def k9 (T:bT) (t b2:Nat):hx T:=⟨[.p (.l t)],[],[.p (.R 0)],[.r t false],List (T.El t),fun d=>bK b2 [] d.1.1,fun _ r=>(((),()),(r,()))⟩
section
variable {E:Env} {t:cU E}
theorem xj {c:hx E.T} {ys:List (aF E.T.El)} {bl:List (aC E.T.El)} {r:fa E.T.El} (h:(c.run E ys bl).out r):(c.ha.run E ys bl).out r:=by
 unfold hx.run at h
 unfold eg.run hx.ha
 dsimp only
 cases af:gu [] c.bt c.pbs bl ys with
 | mk bY cL=>
 rw [af] at h
 dsimp only at h ⊢
 split at h
 · rename_i I aa
   rw [I,aa]
   obtain ⟨q,ak,al⟩:=h
   exact ⟨_,by rw [ak];rfl,al⟩
 · exact h.elim
theorem aey {bt:List cO} {pbs:List bI} {bl:List (aC E.T.El)} {sel us:List Nat} {d:dp E.T.El bt × cF E.T.El pbs}:∀ {ws:List (fW E.T bt pbs)} {o:Option (Ev ws)} {r:cf E.T.El},(TZ E bl sel us d ws o).out r->(Df E bl sel us (DG ws) (o.map (bR d ws))).out r
 | [],o,r,h=>h.elim
 | [w],o,r,h=>by
   obtain ⟨q,ak,al⟩:=h
   exact ⟨_,by rw [ak];rfl,al⟩
 | w::v::ws,o,r,h=>by
   rcases h with ⟨q,ak,al⟩ | ⟨q,ak,al⟩
   · exact .inl ⟨_,by rw [ak];rfl,al⟩
   · exact .inr ⟨_,by rw [ak];rfl,aey al⟩
theorem adp {c:bJ E.T} {F:Nat} {s:eG E.T.El} {r:cf E.T.El} (h:(c.run E F s).out r):(c.rC.run E F s).out r:=by
 unfold bJ.run at h
 unfold fI.run bJ.rC
 dsimp only at h ⊢
 cases hy:nJ E s.bl s.f [] (c.e8.map .tmp) with
 | none=>rw [hy] at h;exact h.elim
 | some ys=>
   rw [hy] at h
   dsimp only at h ⊢
   cases af:gu [] c.bt c.pbs s.bl ys with
   | mk bY cL=>
   rw [af] at h
   dsimp only at h ⊢
   cases I:C5 c.pbs (DG c.ws) && (jA c.pbs c.pbs && qc c.pbs c.pbs) with
   | false=>rw [I] at h;exact h.elim
   | true=>
     cases aa:hN bY [] false c.bt c.pbs cL with
     | none=>rw [I,aa] at h;exact h.elim
     | some ds=>rw [I,aa] at h;exact aey h
theorem afm {bt:List cO} {pbs:List bI} {bl:List (aC E.T.El)} {sel:List Nat} {d:dp E.T.El bt × cF E.T.El pbs}:∀ {ws:List (BO E.T bt pbs)} {o:Option (Eu ws)} {r:fa E.T.El},(Vj E bl sel d ws o).out r->(Dm E bl sel (Hb ws) (o.map fun r=>B6 d ws r)).out r
 | [],o,r,h=>h.elim
 | [w],o,r,h=>by
   obtain ⟨q,ak,al⟩:=h
   exact ⟨_,by rw [ak];rfl,al⟩
 | w::v::ws,o,r,h=>by
   rcases h with ⟨q,ak,al⟩ | ⟨q,ak,al⟩
   · exact .inl ⟨_,by rw [ak];rfl,al⟩
   · exact .inr ⟨_,by rw [ak];rfl,afm al⟩
theorem aBe {c:po E.T} {ys:List (aF E.T.El)} {bl:List (aC E.T.El)} {r:fa E.T.El} (h:(c.run E ys bl).out r):(c.ii.run E ys bl).out r:=by
 unfold po.run at h
 unfold jJ.run po.ii
 dsimp only
 cases af:gu [] c.bt c.pbs bl ys with
 | mk bY cL=>
 rw [af] at h
 dsimp only at h ⊢
 split at h
 · rename_i I aa
   rw [I,aa]
   exact afm h
 · exact h.elim
theorem cU.cM.Mh (a3:c8 E) (dZ:E.cZ= []) (h:t.cM) {f:Nat} (af:e0 E.ca f=true) {c:po E.T} (he:c.Eq E t.br t.LE f):(t.f f (c.run E)).cM:=
 h.nc af fun ys bl r ai=>Zd a3 (ka a3 h.ce h.le 100) h.le dZ (c:=c.ii) (fun ay az _ aE=>(he ay az).trans aE) ys bl r (aBe ai)
theorem cU.cM.rt (a3:c8 E) (dZ:E.cZ= []) (h:t.cM) {f:Nat} (af:e0 E.ca f=true) {c:hx E.T} (he:c.Eq E t.br t.LE f):(t.f f (c.run E)).cM:=
 h.nc af fun ys bl r ai=>B4 a3 (ka a3 h.ce h.le 100) h.le dZ (c:=c.ha) (eg.Eq.v he) ys bl r (xj ai)
theorem cU.cM.bX (a3:c8 E) (dZ:E.cZ= []) (h:t.cM) {g i:Nat} (I:qf E.P g i=true) {c:bJ E.T} (he:c.rC.mc E t.br (t.LE g) (gd E.P g) i (h0 E.P g i)) (F:Nat):(t.l g i (c.run E F)).cM:=
 h.OU a3 I fun ax s r ai=>h.Ra a3 dZ I he F ax s r (adp ai)
theorem cU.cM.ars (a3:c8 E) (dZ:E.cZ= []) (h:t.cM) {f:Nat} (af:e0 E.ca f=true) {c:hx E.T} (he:c.Eq E t.br t.LE f):(t.sY f c).cM:=by
 refine h.nc af fun ys bl r ai=>?_
 split at ai
 · exact B4 a3 (ka a3 h.ce h.le 100) h.le dZ (c:=c.ha) (eg.Eq.v he) ys bl r (xj ai)
 · exact ((ka a3 h.ce h.le 100).ok f ys bl r ai).2
theorem cU.cM.awO (a3:c8 E) (dZ:E.cZ= []) (h:t.cM) {g i:Nat} (I:qf E.P g i=true) {c:bJ E.T} (he:c.rC.mc E t.br (t.LE g) (gd E.P g) i (h0 E.P g i)) (F:Nat):(t.Gm g i c F).cM:=by
 refine h.OU a3 I fun ax s r ai=>?_
 split at ai
 · exact h.Ra a3 dZ I he F ax s r (adp ai)
 · split at ai
   · rename_i q aT
     have Cl:=I
     unfold qf at I
     split at I
     · rename_i b ag
       have Rn:h0 E.P g i=b:=by unfold h0;rw [ag]
       rw [Rn]
       unfold pz at ag
       split at ag
       · rename_i fn fM
         split at ag
         · rename_i qY lF
           have hold:=h.le g fn qY ax fM lF
           have aJ:gd E.P g=fn.ntmps:=by unfold gd;rw [fM]
           rw [aJ]
           exact wA aT hold ag s r ai
         · simp [fp] at ag
       · simp [fp] at ag
     · cases I
   · exact ai.elim
theorem cU.cM.G0 (a3:c8 E) (dZ:E.cZ= []) (h:t.cM) {f nU b2:Nat} (af:e0 E.ca f=true)
 (aQ:(mw E t.br t.LE f [.p (.slice none 0 0)] []).run (k9 E.T nU b2).ha.fin=some (((),()),([],())))
 (I:∀ (a:Addr) (c:Nat),(mw E t.br t.LE f [.p (.slice (some a) 0 c)] []).run (k9 E.T nU b2).ha.fin=some (((),()),([],())))
 (aa:∀ (d:E.T.El nU) (l:List (E.T.El nU)),(mw E t.br t.LE f [.s nU (d::l)] []).run (k9 E.T nU b2).ha.fin=(bK b2 [] (d::l)).bind fun r=>some (((),()),(r,()))):(t.f f ((k9 E.T nU b2).run E)).cM:=by
 refine h.nc af fun ys bl r ai=>B4 a3 (ka a3 h.ce h.le 100) h.le dZ (c:=(k9 E.T nU b2).ha) (fun ay az F w ρ bl vs ah=>?_) ys bl r (xj ai)
 obtain ⟨l,⟨⟩⟩:=ay
 have RX:bK b2 ([]:List (E.T.El nU)) []=some []:=by simp [bK]
 have hm:∀ l:List (E.T.El nU),(k9 E.T nU b2).ha.fn ((l,()),az)=(bK b2 [] l).bind fun r=>some (((),()),(r,())):=fun l=>by
  show Option.map _ (bK b2 [] l)=_
  cases bK b2 ([]:List (E.T.El nU)) l <;> rfl
 cases l with
 | cons d l=>exact ⟨_,ah,fun r aE=>(aa d l).trans ((hm _).symm.trans aE)⟩
 | nil=>
   have fZ:a4 E.T F w ρ bl [.s nU []] vs:=ah
   simp only [a4,ar] at fZ
   obtain ⟨u,us,rfl,aw,rfl⟩:=fZ
   obtain ⟨A,c,e,ak,al,aV,_⟩:=aw
   simp only [List.cons.injEq,and_true] at e
   subst e
   have fM:=hm []
   rw [RX] at fM
   cases A with
   | none=>
     rw [aV rfl]
     exact ⟨[.p (.slice none 0 0)],by simp [a4,ar],fun r aE=>aQ.trans (fM.symm.trans aE)⟩
   | some a=>exact ⟨[.p (.slice (some a) 0 c)],by simp [a4,ar],fun r aE=>(I a c).trans (fM.symm.trans aE)⟩
end
end bn
namespace J
def a' {ρ α:Type} (o:Option (Way ρ α)):Option (α ⊕ ρ):=match o with
 | none=>none
 | some (.go a)=>some (.inl a)
 | some (.out r)=>some (.inr r)
noncomputable def c9 {α:Type} (p:Prop) (o:Option α):Option α:=@ite _ p (Classical.propDecidable p) o none
theorem dy {α:Type} {p:Prop} {o:Option α} (h:p):c9 p o=o:=by unfold c9;exact if_pos h
theorem dx {α:Type} {p:Prop}:c9 p (none:Option α)=none:=by unfold c9;split <;> rfl
theorem dW {α:Type} {p:Prop} {o:Option α} {r:α} (h:c9 p o=some r):p/\o=some r:=by
 unfold c9 at h
 split at h
 · rename_i aN
   exact ⟨aN,h⟩
 · cases h
section
variable {α β ct o8 ρ σ:Type}
theorem axu (o:Option (Way ρ α)) (k:α->Option (Way ρ β)):cT o k=dr (a' o) k (fun r=>some (.out r)):=by
 cases o with
 | none=>rfl
 | some y=>cases y <;> rfl
theorem axF (o:Option (Way ρ α)) (k:α->Option ρ):cd o k=dr (a' o) k (fun r=>some r):=by
 cases o with
 | none=>rfl
 | some y=>cases y <;> rfl
theorem axM (a:α):a' (some (.go a):Option (Way ρ α))=some (.inl a):=rfl
theorem axN (r:ρ):a' (some (.out r):Option (Way ρ α))=some (.inr r):=rfl
theorem axO:a' (none:Option (Way ρ α))=none:=rfl
theorem axP (o:Option ct) (f:ct->Option (Way ρ α)):a' (o.bind f)=o.bind fun x=>a' (f x):=by cases o <;> rfl
theorem axQ (c:Bool) (x y:Option (Way ρ α)):a' (cond c x y)=cond c (a' x) (a' y):=by cases c <;> rfl
theorem axR (o:Option (ct ⊕ o8)) (f:ct->Option (Way ρ α)) (g:o8->Option (Way ρ α)):a' (dr o f g)=dr o (fun x=>a' (f x)) (fun x=>a' (g x)):=by
 cases o with
 | none=>rfl
 | some y=>cases y <;> rfl
theorem axS (a:α) (k:α->Option ct) (l:β->Option ct):dr (some (.inl a)) k l=k a:=rfl
theorem axv (b:β) (k:α->Option ct) (l:β->Option ct):dr (some (.inr b)) k l=l b:=rfl
theorem axw (k:α->Option ct) (l:β->Option ct):dr none k l=none:=rfl
theorem axx (o:Option o8) (f:o8->Option (α ⊕ β)) (k:α->Option ct) (l:β->Option ct):dr (o.bind f) k l=o.bind fun x=>dr (f x) k l:=by cases o <;> rfl
theorem axy (c:Bool) (x y:Option (α ⊕ β)) (k:α->Option ct) (l:β->Option ct):dr (cond c x y) k l=cond c (dr x k l) (dr y k l):=by cases c <;> rfl
theorem axz (o:Option (ρ ⊕ σ)) (f:ρ->Option (α ⊕ β)) (g:σ->Option (α ⊕ β)) (k:α->Option ct) (l:β->Option ct):dr (dr o f g) k l=dr o (fun x=>dr (f x) k l) (fun x=>dr (g x) k l):=by
 cases o with
 | none=>rfl
 | some y=>cases y <;> rfl
theorem axA (o:Option α) (f:α->Option β) (g:β->Option ct):(o.bind f).bind g=o.bind fun x=>(f x).bind g:=by cases o <;> rfl
theorem axB (a:α) (f:α->Option β):(some a).bind f=f a:=rfl
theorem axC (f:α->Option β):Option.bind none f=none:=rfl
theorem axD (c:Bool) (x y:Option α) (f:α->Option β):(cond c x y).bind f=cond c (x.bind f) (y.bind f):=by cases c <;> rfl
theorem axE (o:Option (ρ ⊕ σ)) (k:ρ->Option α) (l:σ->Option α) (f:α->Option β):(dr o k l).bind f=dr o (fun x=>(k x).bind f) (fun x=>(l x).bind f):=by
 cases o with
 | none=>rfl
 | some y=>cases y <;> rfl
theorem axG (o:Option α) (f:α->Option β) (g:β->ct):(o.bind f).map g=o.bind fun x=>(f x).map g:=by cases o <;> rfl
theorem axH (c:Bool) (x y:Option α) (g:α->ct):(cond c x y).map g=cond c (x.map g) (y.map g):=by cases c <;> rfl
theorem axI (a:α) (g:α->ct):(some a).map g=some (g a):=rfl
theorem axJ (g:α->ct):Option.map g none=none:=rfl
theorem axK (o:Option (ρ ⊕ σ)) (k:ρ->Option α) (l:σ->Option α) (g:α->ct):(dr o k l).map g=dr o (fun x=>(k x).map g) (fun x=>(l x).map g):=by
 cases o with
 | none=>rfl
 | some y=>cases y <;> rfl
theorem axL {cI:Type} (k:cI) (b:cI->Option α):join k b=b k:=rfl
def jc {α β:Type} (o:Option (Option α × β)):Option ((α × β) ⊕ β):=match o with
 | none=>none
 | some (some v,e)=>some (.inl (v,e))
 | some (none,e)=>some (.inr e)
theorem adQ (o:Option (Option α × β)) (f:Option α × β->Option ct):o.bind f=dr (jc o) (fun p=>f (some p.1,p.2)) (fun e=>f (none,e)):=by
 rcases o with _ | ⟨_ | v,e⟩ <;> rfl
theorem adR (v:α) (e:β):jc (some (some v,e))=some (.inl (v,e)):=rfl
theorem adS (e:β):jc (some ((none:Option α),e))=some (.inr e):=rfl
theorem adT:jc (none:Option (Option α × β))=none:=rfl
theorem adU (o:Option ct) (f:ct->Option (Option α × β)):jc (o.bind f)=o.bind fun x=>jc (f x):=by cases o <;> rfl
theorem adV (c:Bool) (x y:Option (Option α × β)):jc (cond c x y)=cond c (jc x) (jc y):=by cases c <;> rfl
theorem adW (o:Option (ct ⊕ o8)) (f:ct->Option (Option α × β)) (g:o8->Option (Option α × β)):jc (dr o f g)=dr o (fun x=>jc (f x)) (fun x=>jc (g x)):=by
 cases o with
 | none=>rfl
 | some y=>cases y <;> rfl
theorem axr (b x:Bool):cond b (some x) (some false)=some (b && x):=by cases b <;> rfl
theorem axs {α:Type} (a b:Bool) (x y:Option α):cond a (cond b x y) y=cond (a && b) x y:=by cases a <;> rfl
theorem Tw {α:Type} (a b:Bool) (x y:Option α):cond a x (cond b x y)=cond (a || b) x y:=by cases a <;> rfl
theorem a6:(∀ {α β ρ:Type} (o:Option (Way ρ α)) (k:α->Option (Way ρ β)),cT o k=dr (a' o) k (fun r=>some (.out r)))/\(∀ {α ρ:Type} (o:Option (Way ρ α)) (k:α->Option ρ),cd o k=dr (a' o) k (fun r=>some r))/\(∀ {α ρ:Type} (a:α),a' (some (.go a):Option (Way ρ α))=some (.inl a))/\(∀ {α ρ:Type} (r:ρ),a' (some (.out r):Option (Way ρ α))=some (.inr r))/\(∀ {α ρ:Type},a' (none:Option (Way ρ α))=none)/\(∀ {α ct ρ:Type} (o:Option ct) (f:ct->Option (Way ρ α)),a' (o.bind f)=o.bind fun x=>a' (f x))/\(∀ {α ρ:Type} (c:Bool) (x y:Option (Way ρ α)),a' (cond c x y)=cond c (a' x) (a' y))/\(∀ {α ct o8 ρ:Type} (o:Option (ct ⊕ o8)) (f:ct->Option (Way ρ α)) (g:o8->Option (Way ρ α)),a' (dr o f g)=dr o (fun x=>a' (f x)) (fun x=>a' (g x)))/\(∀ {α β ct:Type} (a:α) (k:α->Option ct) (l:β->Option ct),dr (some (.inl a)) k l=k a)/\(∀ {α β ct:Type} (b:β) (k:α->Option ct) (l:β->Option ct),dr (some (.inr b)) k l=l b)/\(∀ {α β ct:Type} (k:α->Option ct) (l:β->Option ct),dr none k l=none)/\(∀ {α β ct o8:Type} (o:Option o8) (f:o8->Option (α ⊕ β)) (k:α->Option ct) (l:β->Option ct),dr (o.bind f) k l=o.bind fun x=>dr (f x) k l)/\(∀ {α β ct:Type} (c:Bool) (x y:Option (α ⊕ β)) (k:α->Option ct) (l:β->Option ct),dr (cond c x y) k l=cond c (dr x k l) (dr y k l))/\(∀ {α β ct ρ σ:Type} (o:Option (ρ ⊕ σ)) (f:ρ->Option (α ⊕ β)) (g:σ->Option (α ⊕ β)) (k:α->Option ct) (l:β->Option ct),dr (dr o f g) k l=dr o (fun x=>dr (f x) k l) (fun x=>dr (g x) k l))/\(∀ {α β ct:Type} (o:Option α) (f:α->Option β) (g:β->Option ct),(o.bind f).bind g=o.bind fun x=>(f x).bind g)/\(∀ {α β:Type} (a:α) (f:α->Option β),(some a).bind f=f a)/\(∀ {α β:Type} (f:α->Option β),Option.bind none f=none)/\(∀ {α β:Type} (c:Bool) (x y:Option α) (f:α->Option β),(cond c x y).bind f=cond c (x.bind f) (y.bind f))/\(∀ {α β ρ σ:Type} (o:Option (ρ ⊕ σ)) (k:ρ->Option α) (l:σ->Option α) (f:α->Option β),(dr o k l).bind f=dr o (fun x=>(k x).bind f) (fun x=>(l x).bind f))/\(∀ {α β ct:Type} (o:Option α) (f:α->Option β) (g:β->ct),(o.bind f).map g=o.bind fun x=>(f x).map g)/\(∀ {α ct:Type} (c:Bool) (x y:Option α) (g:α->ct),(cond c x y).map g=cond c (x.map g) (y.map g))/\(∀ {α ct:Type} (a:α) (g:α->ct),(some a).map g=some (g a))/\(∀ {α ct:Type} (g:α->ct),Option.map g none=none)/\(∀ {α ct ρ σ:Type} (o:Option (ρ ⊕ σ)) (k:ρ->Option α) (l:σ->Option α) (g:α->ct),(dr o k l).map g=dr o (fun x=>(k x).map g) (fun x=>(l x).map g))/\(∀ {α:Type} {cI:Type} (k:cI) (b:cI->Option α),join k b=b k):=⟨axu,axF,axM,axN,axO,axP,axQ,axR,axS,axv,axw,axx,axy,axz,axA,axB,axC,axD,axE,axG,axH,axI,axJ,axK,axL⟩
end
end J
namespace bn
open Go Go.RowKit au J
theorem bJ.bU {E:Env} {br:e6 E} {LE:mb E} {n id:Nat} {body:Code} {c:bJ E.T} (aQ:∀ d,c.fn 0 d=none)
 (I:∀ k (ay:dp E.T.El c.bt) (az:cF E.T.El c.pbs) q,c.fn (k+ 1) (ay,az)=some q->(den E br LE n body (v_ E c.rC ay az)).run (c.rC.fin E id k)=(c.fn (k+ 1) (ay,az)).map fun r=>bR (ay,az) c.ws r):c.rC.mc E br LE n id body:=
 ⟨fun d=>by exact (congrArg (Option.map _) (aQ d)).trans rfl,fun k ay az r h=>by
  obtain ⟨q,ak,_⟩:=Option.map_eq_some_iff.1 h
  exact (I k ay az q ak).trans h⟩
end bn
namespace bn
open Go Go.RowKit au J
def okF (P:Program) (f:Nat):Bool:=match P.funcs[f]? with
 | some fn=>!(fn.name == "runtime.NumGoroutine") && !fn.body.isNone
 | none=>false
theorem ad4 {P:Program} {f:Nat} (h:okF P f=true) (args:Array Value) (w:World):(callFunc f args).run P w= .ok (.enter f args) w:=by
 unfold okF at h
 split at h
 · rename_i fn af
   simp only [Bool.and_eq_true,Bool.not_eq_true'] at h
   have I: ¬ fn.name= "runtime.NumGoroutine" :=fun e=>by rw [e] at h;simp at h
   cases ag:fn.body with
   | none=>rw [ag] at h;simp at h
   | some c=>simp [callFunc,go_sem,af,I,ag]
 · cases h
def LC (P:Program):List Nat->Bool
 | []=>true
 | f::r=>okF P f && LC P r
theorem TE {P:Program}:∀ {l:List Nat} {f:Nat},LC P l=true->f ∈ l->okF P f=true
 | g::r,f,h,af=>by
   simp only [LC,Bool.and_eq_true] at h
   rcases List.mem_cons.1 af with rfl | af
   · exact h.1
   · exact TE h.2 af
theorem L4 {α:Type} {A B:cY α} {F F':Nat->Prop} {w w':World} (h:∀ cs d,A.rd F w cs d->B.rd F' w' cs d):∀ {l:List α} {xs:List Value},dS A F w xs l->dS B F' w' xs l
 | [],xs,ad=>ad
 | d::r,xs,ad=>by
   obtain ⟨cs,ys,rfl,I,aa⟩:=ad
   exact ⟨cs,ys,rfl,h _ _ I,L4 h aa⟩
theorem iB {α:Type} {A B:cY α} {F:Nat->Prop} {w:World} (h:∀ cs d,A.rd F w cs d->B.rd F w cs d) {xs:List Value} {l:List α} (ad:(b4 A).rd F w xs l):(b4 B).rd F w xs l:=by
 obtain ⟨P,c,e,I,aa,aw,bi⟩:=ad
 refine ⟨P,c,e,I,aa,aw,fun aq=>?_⟩
 obtain ⟨dC,bG,ys,fK,iT⟩:=bi aq
 exact ⟨dC,bG,ys,L4 h fK,iT⟩
def yv (P:Program) (T:bT) (t:Nat) (e:b6 T.El t):Prop:=∀ f,e.eq=some f-> ∀ F w xs ys d e',e.ty.rd F w xs d->e.ty.rd F w ys e'-> ∀ (o:Oper) (a:Act) (x y:Operand) (t':TypeId) (b:Bool),o.op= .binOp (cond b .eql .neq) t x y t'->a.eval x= .agg ⟨xs⟩->a.eval y= .agg ⟨ys⟩-> ∀ w',bb P o a w' (.bool (cond b (f d e') (!f d e'))) w'
def Pu (P:Program) (T:bT):List (Σ t,b6 T.El t)->Prop
 | []=>True
 | p::r=>yv P T p.1 p.2 /\Pu P T r
theorem Pt {P:Program} {T:bT} {t:Nat}:∀ {es:List (Σ t,b6 T.El t)},Pu P T es->yv P T t (fC es t)
 | [],_=>fun f af=>by cases af
 | p::r,h=>by
   simp only [fC]
   split
   · rename_i e _
     subst e
     exact h.1
   · exact Pt h.2
theorem fg {P:Program} {T:bT} {t:Nat} {e:b6 T.El t} (h:e.eq=none):yv P T t e:=fun f af=>by rw [h] at af;cases af
section
variable {E:Env} {f:Nat}
theorem adu (W:World):Mem E.T W [] (fun _=>False) [] [] W:=
 ⟨bp.refl _ _,rfl,fun _ h=>h.elim,fun k ⟨i,B,h,I,_⟩=>by simp at I,fun i j B C h g I=>by simp at I,fun i B h I=>by simp at I⟩
theorem awv (dZ:E.cZ= []) {g:List (aF E.T.El)->List (aC E.T.El)->D (fa E.T.El)} (hc:jj E f g) {ys:List (aF E.T.El)} (ai:(g ys []).out ⟨.ret (.p (.bool true)),[],[]⟩) {W:World} {vs:List Value} (ah:a4 E.T (fun k=>k <W.heap.size) W [] [] ys vs) :
 Calls E.P f ⟨vs⟩ W fun e w'=>e= .returned (.bool true)/\bp [] W w':=by
 have aQ:a4 E.T (bh (fun _=>False) ([]:List (aC E.T.El)) [] W) W [] [] ys vs:=a4.later (fun k aj=>⟨⟨fun h=>h,fun ⟨i,B,h,I,_⟩=>by simp at I,aj⟩,rfl⟩) .refl ys ah
 refine (hc ys [] _ ai W [] (fun _=>False) [] W vs (adu W) (fun g y ax=>by rw [dZ] at ax;simp [cJ] at ax) aQ).mono fun e w' ⟨ρ',hm,_,_,aE⟩=>?_
 cases e with
 | returned v=>
   have aE:v= .bool true:=by
    simp only [zb,ar] at aE
    exact aE
   exact ⟨by rw [aE],hm.bV⟩
 | panicked vJ=>exact aE.elim
 | outgrown=>exact aE.elim
end
end bn
namespace bn
open Go Go.RowKit au J
section
variable {T:bT} {W w w':World} {M0:List Nat} {X:Nat->Prop} {bl:List (aC T.El)} {ρ:List Value} {E:List a7} {D:List bB}
variable {t sz:Nat} {h:Value} {l:List (T.El t)} {xs:List Value} {R:cY (T.El t)}
variable {t' r8:Nat} {h':Value} {l':List (T.El t')} {eX:List Value} {Yf:cY (T.El t')}
theorem asF {A:Option Addr} {n c k:Nat} (aj:k ∈ ag (.slice A n c)):k ∈ (Value.slice A n c).ownBlock.toList:=by
 cases A <;> cases c <;> simp_all [ag,Value.ownBlock]
theorem Vg {F:Nat->Prop} {M:List Nat} (av:(a7.row t sz h l xs).ok w') (aE:(bB.rows R xs l).ok M w') (ai:(T.ty t).size=sz) (eH:∀ F cs d,R.rd F w' cs d-> ∀ F',(T.ty t).rd F' w' cs d) (g k:Nat):ih T F w' ρ bl (.r t g k l) h:=by
 subst ai
 obtain ⟨A,c,rfl,_⟩:=Ha av
 exact ⟨A,c,xs,rfl,.inl av,L4 (fun cs d ad=>eH _ _ _ ad _) aE⟩
theorem JV (ao:bs w [] [] w' E D) (hi:a7.row t sz h l xs ∈ E) {g k:Nat}:∀ q ∈ bA (aC.r t g k l:aC T.El) h,q ∈ (a7.row t sz h l xs).bA/\w.heap.size<=q/\q <w'.heap.size:=fun q aT=>by
 obtain ⟨A,c,rfl,_⟩:=Ha (ao.ok _ hi)
 have aQ:q ∈ (a7.row t sz (.slice A l.length c) l xs).bA:=asF aT
 have I:=ao.lt q (List.mem_flatMap.2 ⟨_,hi,aQ⟩)
 exact ⟨aQ,I.2.resolve_left (by simp),I.1⟩
theorem Mem.aBL (hm:Mem T W M0 X bl ρ w) (ao:bs w [] [] w' (a7.row t sz h l xs::E) (bB.rows R xs l::D)) (ai:(T.ty t).size=sz) (eH:∀ F cs d,R.rd F w' cs d-> ∀ F',(T.ty t).rd F' w' cs d) :
 Mem T W M0 X (bl++[.r t 0 0 l]) (ρ++[h]) w'/\To X bl (bl++[.r t 0 0 l]) ρ (ρ++[h]) w w':=
 ⟨hm.push ao.bV (fun q aT=>(JV (xs:=xs) (sz:=sz) ao (by simp) q aT).2) (Vg (ao.e 0 rfl) (ao.d 0 rfl) ai eH 0 0),hm.xz ao.bV fun q aT=>(JV (xs:=xs) (sz:=sz) ao (by simp) q aT).2⟩
theorem Mem.aBM (hm:Mem T W M0 X bl ρ w) (ao:bs w [] [] w' (a7.row t sz h l xs::a7.row t' r8 h' l' eX::E) (bB.rows R xs l::bB.rows Yf eX l'::D)) (ai:(T.ty t).size=sz) (eH:∀ F cs d,R.rd F w' cs d-> ∀ F',(T.ty t).rd F' w' cs d)
 (KF:(T.ty t').size=r8) (asg:∀ F cs d,Yf.rd F w' cs d-> ∀ F',(T.ty t').rd F' w' cs d) :
 Mem T W M0 X (bl++[.r t 0 0 l,.r t' 0 0 l']) (ρ++[h,h']) w'/\To X bl (bl++[.r t 0 0 l,.r t' 0 0 l']) ρ (ρ++[h,h']) w w':=by
 have f1:=JV (T:=T) (g:=0) (k:=0) (l:=l) (h:=h) (xs:=xs) (sz:=sz) ao (by simp)
 have f2:=JV (T:=T) (g:=0) (k:=0) (l:=l') (h:=h') (xs:=eX) (sz:=r8) ao (by simp)
 have aM:=ao.bx
 simp only [bW,List.flatMap_cons] at aM
 refine ⟨hm.aeu ao.bV (fun q aT=>(f1 q aT).2) (fun q aT=>(f2 q aT).2) (fun q I aa=>?_) (Vg (ao.e 0 rfl) (ao.d 0 rfl) ai eH 0 0) (Vg (ao.e 1 rfl) (ao.d 1 rfl) KF asg 0 0),hm.VM ao.bV (fun q aT=>(f1 q aT).2) fun q aT=>(f2 q aT).2⟩
 exact (List.nodup_append.1 aM).2.2 q (f1 q I).1 q (List.mem_append_left _ (f2 q aa).1) rfl
end
end bn
namespace bn
open Go Go.RowKit au J
def VO {α:Type} (T:cY α):cY α where
 size:=1
 rd F w cs d:=∃ a q us,cs= [.pointer (some ⟨a,q,none⟩)]/\F a/\T.rd F w us d/\e5 w ⟨a,q,none⟩ us
 len h:=by obtain ⟨a,q,us,rfl,_⟩:=h;rfl
 one h v ah:=by
  obtain ⟨a,q,us,rfl,_⟩:=h
  simp only [List.mem_singleton] at ah
  subst ah
  rfl
 law aD h:=by
  obtain ⟨a,q,us,rfl,I,aa,aw⟩:=h
  exact ⟨a,q,us,rfl,(aD a I).1,T.law aD aa,aw.law (aD a I).2⟩
def Sm {El:Nat->Type} (s:Nat):List (aF El)->Option (El s)
 | [.x t d 0]=>match Nat.decEq t s with
   | .isTrue h=>some (h ▸ d)
   | .isFalse _=>none
 | _=>none
section
variable {T:bT} {F:Nat->Prop} {w:World} {ρ:List Value} {bl:List (aC T.El)}
theorem auN {s:Nat} {l:List (aF T.El)} {d:T.El s} (h:Sm s l=some d) {xs:List Value} (aE:a4 T F w ρ bl l xs):(VO (T.ty s)).rd F w xs d:=by
 unfold Sm at h
 split at h
 · rename_i t d'
   split at h
   · rename_i e _
     subst e
     simp only [Option.some.injEq] at h
     subst h
     simp only [a4] at aE
     obtain ⟨u,us,rfl,hu,rfl⟩:=aE
     simp only [ar] at hu
     obtain ⟨a,q,cs,rfl,I,aa,aw⟩:=hu
     exact ⟨a,q,cs,rfl,I,aa,aw⟩
   · cases h
 · cases h
theorem ao5 {s:Nat} {d:T.El s} {xs:List Value} (h:(VO (T.ty s)).rd F w xs d):a4 T F w ρ bl [.x s d 0] xs:=by
 obtain ⟨a,q,us,rfl,I,aa,aw⟩:=h
 simp only [a4]
 refine ⟨_,_,rfl,?_,rfl⟩
 simp only [ar]
 exact ⟨a,q,us,rfl,I,aa,aw⟩
end
end bn
namespace Go.Proofs.YteeliipnilghaaaGreat
open Go Go.RowKit au bn
def cg:Nat->Type:=ZV [(2,Int),(3,Int),(4,Bool),(5,UInt8),(6,UInt8),(9,List UInt8),(10,List UInt8),(11,List UInt8),(21,Int),(22,List Int),(24,J.aY),(136,J.Field),(128,J.Kind),(157,J.Handler),(131,J.Method),(134,J.ap),(25,List J.ap),(124,List J.Field),(26,List (List J.Field)),(120,List (List UInt8)),(27,List (List (List UInt8))),(166,J.Target),(121,List J.Target),(28,List (List J.Target)),(30,J.aU),(31,Int),(69,J.b'),(126,List J.Kind),(129,List J.Handler),(132,List J.Method),(192,Int),(202,List (List Int)),(204,List UInt8),(219,UInt8),(220,UInt8),(223,Int),(224,Int),(109,Int)]
def Z7:List (Σ t,b6 cg t):=[]
def al:b6 cg 2 :=eW Z7 false [.i .i64] (fun (d:Int)=>(d,())) (fun (p:Int × Unit)=>p.1) none (some wx)
def JJ:List (Σ t,b6 cg t):=⟨2,al⟩::Z7
def aV:b6 cg 3 :=eW JJ false [.i .i64] (fun (d:Int)=>(d,())) (fun (p:Int × Unit)=>p.1) none (some wx)
def aaq:List (Σ t,b6 cg t):=⟨3,aV⟩::JJ
def bS:b6 cg 4 :=eW aaq false [.b] (fun (d:Bool)=>(d,())) (fun (p:Bool × Unit)=>p.1) none none
def Py:List (Σ t,b6 cg t):=⟨4,bS⟩::aaq
def dw:b6 cg 5 :=eW Py false [.y] (fun (d:UInt8)=>(d,())) (fun (p:UInt8 × Unit)=>p.1) none none
def aat:List (Σ t,b6 cg t):=⟨5,dw⟩::Py
def gR:b6 cg 6 :=eW aat false [.y] (fun (d:UInt8)=>(d,())) (fun (p:UInt8 × Unit)=>p.1) none none
def JL:List (Σ t,b6 cg t):=⟨6,gR⟩::aat
def B9:b6 cg 9 :=eW JL false [.s] (fun (d:List UInt8)=>(d,())) (fun (p:(List UInt8) × Unit)=>p.1) none (some F9)
def aav:List (Σ t,b6 cg t):=⟨9,B9⟩::JL
def B7:b6 cg 10 :=eW aav false [.s] (fun (d:List UInt8)=>(d,())) (fun (p:(List UInt8) × Unit)=>p.1) none (some F9)
def Z8:List (Σ t,b6 cg t):=⟨10,B7⟩::aav
def B8:b6 cg 11 :=eW Z8 false [.s] (fun (d:List UInt8)=>(d,())) (fun (p:(List UInt8) × Unit)=>p.1) none (some F9)
def Z9:List (Σ t,b6 cg t):=⟨11,B8⟩::Z8
def ZE:b6 cg 21 :=eW Z9 false [.i .i32] (fun (d:Int)=>(d,())) (fun (p:Int × Unit)=>p.1) none none
def aaj:List (Σ t,b6 cg t):=⟨21,ZE⟩::Z9
def ZG:b6 cg 22 :=eW aaj false [.l 3] (fun (d:List Int)=>(d,())) (fun (p:(List Int) × Unit)=>p.1) none none
def aal:List (Σ t,b6 cg t):=⟨22,ZG⟩::aaj
def ZK:b6 cg 24 :=eW aal true [.l 3,.i .i64,.i .i64,.i .i64,.i .i64,.l 3,.i .i64] (fun (d:J.aY)=>(d.Words,d.aL,d.aW,d.a5,d.a2,d.aZ,d.Next,())) (fun (p:(List Int) × Int × Int × Int × Int × (List Int) × Int × Unit)=>(⟨p.1,p.2.1,p.2.2.1,p.2.2.2.1,p.2.2.2.2.1,p.2.2.2.2.2.1,p.2.2.2.2.2.2.1⟩:J.aY)) none none
def EU:List (Σ t,b6 cg t):=⟨24,ZK⟩::aal
def Po:b6 cg 136 :=eW EU true [.s,.i .i64,.s] (fun (d:J.Field)=>(d.Name,d.Kind.Kind,d.Kind.ap,())) (fun (p:(List UInt8) × Int × (List UInt8) × Unit)=>(⟨p.1,⟨p.2.1,p.2.2.1⟩⟩:J.Field)) (some fun (d e:J.Field)=>decide (d=e)) none
def JH:List (Σ t,b6 cg t):=⟨136,Po⟩::EU
def Pn:b6 cg 128 :=eW JH true [.i .i64,.s] (fun (d:J.Kind)=>(d.Kind,d.ap,())) (fun (p:Int × (List UInt8) × Unit)=>(⟨p.1,p.2.1⟩:J.Kind)) (some fun (d e:J.Kind)=>decide (d=e)) none
def JF:List (Σ t,b6 cg t):=⟨128,Pn⟩::JH
def Pp:b6 cg 157 :=eW JF true [.i .i64,.i .i64,.i .i64,.s] (fun (d:J.Handler)=>(d.From,d.To,d.hV,d.ap,())) (fun (p:Int × Int × Int × (List UInt8) × Unit)=>(⟨p.1,p.2.1,p.2.2.1,p.2.2.2.1⟩:J.Handler)) (some fun (d e:J.Handler)=>decide (d=e)) none
def JI:List (Σ t,b6 cg t):=⟨157,Pp⟩::JF
def Zy:b6 cg 131 :=eW JI true [.s,.b,.l 128,.i .i64,.s,.i .i64,.i .i64,.s,.l 157] (fun (d:J.Method)=>(d.Name,d.Static,d.cw,d.Returns.Kind,d.Returns.ap,d.g8,d.g5,d.Code,d.cz,())) (fun (p:(List UInt8) × Bool × (List J.Kind) × Int × (List UInt8) × Int × Int × (List UInt8) × (List J.Handler) × Unit)=>(⟨p.1,p.2.1,p.2.2.1,⟨p.2.2.2.1,p.2.2.2.2.1⟩,p.2.2.2.2.2.1,p.2.2.2.2.2.2.1,p.2.2.2.2.2.2.2.1,p.2.2.2.2.2.2.2.2.1⟩:J.Method)) none none
def JG:List (Σ t,b6 cg t):=⟨131,Zy⟩::JI
def ZA:b6 cg 134 :=eW JG true [.s,.s,.l 136,.l 131] (fun (d:J.ap)=>(d.Name,d.cP,d.Fields,d.bc,())) (fun (p:(List UInt8) × (List UInt8) × (List J.Field) × (List J.Method) × Unit)=>(⟨p.1,p.2.1,p.2.2.1,p.2.2.2.1⟩:J.ap)) none none
def aaf:List (Σ t,b6 cg t):=⟨134,ZA⟩::JG
def ZL:b6 cg 25 :=eW aaf false [.l 134] (fun (d:List J.ap)=>(d,())) (fun (p:(List J.ap) × Unit)=>p.1) none none
def Pw:List (Σ t,b6 cg t):=⟨25,ZL⟩::aaf
def Zv:b6 cg 124 :=eW Pw false [.l 136] (fun (d:List J.Field)=>(d,())) (fun (p:(List J.Field) × Unit)=>p.1) none none
def aab:List (Σ t,b6 cg t):=⟨124,Zv⟩::Pw
def ZM:b6 cg 26 :=eW aab false [.l 124] (fun (d:List (List J.Field))=>(d,())) (fun (p:(List (List J.Field)) × Unit)=>p.1) none none
def Px:List (Σ t,b6 cg t):=⟨26,ZM⟩::aab
def Zt:b6 cg 120 :=eW Px false [.l 9] (fun (d:List (List UInt8))=>(d,())) (fun (p:(List (List UInt8)) × Unit)=>p.1) none none
def Z_:List (Σ t,b6 cg t):=⟨120,Zt⟩::Px
def ZN:b6 cg 27 :=eW Z_ false [.l 120] (fun (d:List (List (List UInt8)))=>(d,())) (fun (p:(List (List (List UInt8))) × Unit)=>p.1) none none
def JK:List (Σ t,b6 cg t):=⟨27,ZN⟩::Z_
def Pq:b6 cg 166 :=eW JK true [.i .i64,.i .i64] (fun (d:J.Target)=>(d.ap,d.Method,())) (fun (p:Int × Int × Unit)=>(⟨p.1,p.2.1⟩:J.Target)) (some fun (d e:J.Target)=>decide (d=e)) none
def Pv:List (Σ t,b6 cg t):=⟨166,Pq⟩::JK
def Zu:b6 cg 121 :=eW Pv false [.l 166] (fun (d:List J.Target)=>(d,())) (fun (p:(List J.Target) × Unit)=>p.1) none none
def Z':List (Σ t,b6 cg t):=⟨121,Zu⟩::Pv
def ZO:b6 cg 28 :=eW Z' false [.l 121] (fun (d:List (List J.Target))=>(d,())) (fun (p:(List (List J.Target)) × Unit)=>p.1) none none
def aap:List (Σ t,b6 cg t):=⟨28,ZO⟩::Z'
def ZP:b6 cg 30 :=eW aap true [.l 134,.l 3,.l 124,.l 120,.l 121] (fun (d:J.aU)=>(d.ba,d.a8,d.Fields,d.Names,d.a9,())) (fun (p:(List J.ap) × (List Int) × (List (List J.Field)) × (List (List (List UInt8))) × (List (List J.Target)) × Unit)=>(⟨p.1,p.2.1,p.2.2.1,p.2.2.2.1,p.2.2.2.2.1⟩:J.aU)) none none
def aar:List (Σ t,b6 cg t):=⟨30,ZP⟩::aap
def ZQ:b6 cg 31 :=eW aar false [.i .i64] (fun (d:Int)=>(d,())) (fun (p:Int × Unit)=>p.1) none (some wx)
def aas:List (Σ t,b6 cg t):=⟨31,ZQ⟩::aar
def ZR:b6 cg 69 :=eW aas true [.l 134,.l 3,.l 124,.l 120,.l 121] (fun (d:J.b')=>(d.K.ba,d.K.a8,d.K.Fields,d.K.Names,d.K.a9,())) (fun (p:(List J.ap) × (List Int) × (List (List J.Field)) × (List (List (List UInt8))) × (List (List J.Target)) × Unit)=>(⟨⟨p.1,p.2.1,p.2.2.1,p.2.2.2.1,p.2.2.2.2.1⟩⟩:J.b')) none none
def aau:List (Σ t,b6 cg t):=⟨69,ZR⟩::aas
def Zw:b6 cg 126 :=eW aau false [.l 128] (fun (d:List J.Kind)=>(d,())) (fun (p:(List J.Kind) × Unit)=>p.1) none none
def aac:List (Σ t,b6 cg t):=⟨126,Zw⟩::aau
def Zx:b6 cg 129 :=eW aac false [.l 157] (fun (d:List J.Handler)=>(d,())) (fun (p:(List J.Handler) × Unit)=>p.1) none none
def aad:List (Σ t,b6 cg t):=⟨129,Zx⟩::aac
def Zz:b6 cg 132 :=eW aad false [.l 131] (fun (d:List J.Method)=>(d,())) (fun (p:(List J.Method) × Unit)=>p.1) none none
def aae:List (Σ t,b6 cg t):=⟨132,Zz⟩::aad
def ZB:b6 cg 192 :=eW aae false [.i .i64] (fun (d:Int)=>(d,())) (fun (p:Int × Unit)=>p.1) none (some wx)
def aag:List (Σ t,b6 cg t):=⟨192,ZB⟩::aae
def ZC:b6 cg 202 :=eW aag false [.l 22] (fun (d:List (List Int))=>(d,())) (fun (p:(List (List Int)) × Unit)=>p.1) none none
def aah:List (Σ t,b6 cg t):=⟨202,ZC⟩::aag
def ZD:b6 cg 204 :=eW aah false [.l 5] (fun (d:List UInt8)=>(d,())) (fun (p:(List UInt8) × Unit)=>p.1) none none
def aai:List (Σ t,b6 cg t):=⟨204,ZD⟩::aah
def ZF:b6 cg 219 :=eW aai false [.y] (fun (d:UInt8)=>(d,())) (fun (p:UInt8 × Unit)=>p.1) none none
def aak:List (Σ t,b6 cg t):=⟨219,ZF⟩::aai
def ZH:b6 cg 220 :=eW aak false [.y] (fun (d:UInt8)=>(d,())) (fun (p:UInt8 × Unit)=>p.1) none none
def aam:List (Σ t,b6 cg t):=⟨220,ZH⟩::aak
def ZI:b6 cg 223 :=eW aam false [.i .i32] (fun (d:Int)=>(d,())) (fun (p:Int × Unit)=>p.1) none none
def aan:List (Σ t,b6 cg t):=⟨223,ZI⟩::aam
def ZJ:b6 cg 224 :=eW aan false [.i .i32] (fun (d:Int)=>(d,())) (fun (p:Int × Unit)=>p.1) none none
def aao:List (Σ t,b6 cg t):=⟨224,ZJ⟩::aan
def Zs:b6 cg 109 :=⟨(VO (fC aao 3).ty:cY (cg 109)),false,fun d=>[.x 3 (d:cg 3) 0],fun l=>(Sm (El:=cg) 3 l:Option (cg 109)),none,none⟩
def aqJ:List (Σ t,b6 cg t):=⟨109,Zs⟩::aao
def bz:bT:=⟨cg,aqJ⟩
theorem apn:eu bz 109 Zs:=⟨fun d F w xs h=>ao5 (T:=bz) (s:=3) h,fun l d h F w ρ bl xs aE=>auN (T:=bz) (s:=3) h aE,(fun K h=>by cases h),fun h d=>rfl⟩
theorem apW:eu bz 2 al:=e1 trivial (fun _=>rfl) (fun h=>by rfl) (fun K h F w xs k ad=>by cases h;obtain ⟨v,vs,rfl,I,rfl⟩:=ad;exact I)
theorem apZ:eu bz 3 aV:=e1 trivial (fun _=>rfl) (fun h=>by rfl) (fun K h F w xs k ad=>by cases h;obtain ⟨v,vs,rfl,I,rfl⟩:=ad;exact I)
theorem ap0:eu bz 4 bS:=e1 trivial (fun _=>rfl) (fun h=>by rfl) (fun K h=>by cases h)
theorem ap1:eu bz 5 dw:=e1 trivial (fun _=>rfl) (fun h=>by rfl) (fun K h=>by cases h)
theorem ap3:eu bz 6 gR:=e1 trivial (fun _=>rfl) (fun h=>by rfl) (fun K h=>by cases h)
theorem ap5:eu bz 9 B9:=e1 trivial (fun _=>rfl) (fun h=>by rfl) (fun K h F w xs k ad=>by cases h;obtain ⟨v,vs,rfl,I,rfl⟩:=ad;exact I)
theorem apo:eu bz 10 B7:=e1 trivial (fun _=>rfl) (fun h=>by rfl) (fun K h F w xs k ad=>by cases h;obtain ⟨v,vs,rfl,I,rfl⟩:=ad;exact I)
theorem app:eu bz 11 B8:=e1 trivial (fun _=>rfl) (fun h=>by rfl) (fun K h F w xs k ad=>by cases h;obtain ⟨v,vs,rfl,I,rfl⟩:=ad;exact I)
theorem apM:eu bz 21 ZE:=e1 trivial (fun _=>rfl) (fun h=>by rfl) (fun K h=>by cases h)
theorem apQ:eu bz 22 ZG:=e1 ⟨by kernel_rfl,trivial⟩ (fun _=>rfl) (fun h=>by rfl) (fun K h=>by cases h)
theorem apR:eu bz 24 ZK:=e1 ⟨by kernel_rfl,by kernel_rfl,trivial⟩ (fun _=>rfl) (fun h=>by cases h) (fun K h=>by cases h)
theorem apB:eu bz 136 Po:=e1 trivial (fun _=>rfl) (fun h=>by cases h) (fun K h=>by cases h)
theorem apv:eu bz 128 Pn:=e1 trivial (fun _=>rfl) (fun h=>by cases h) (fun K h=>by cases h)
theorem apD:eu bz 157 Pp:=e1 trivial (fun _=>rfl) (fun h=>by cases h) (fun K h=>by cases h)
theorem apy:eu bz 131 Zy:=e1 ⟨by kernel_rfl,by kernel_rfl,trivial⟩ (fun _=>rfl) (fun h=>by cases h) (fun K h=>by cases h)
theorem apA:eu bz 134 ZA:=e1 ⟨by kernel_rfl,by kernel_rfl,trivial⟩ (fun _=>rfl) (fun h=>by cases h) (fun K h=>by cases h)
theorem apS:eu bz 25 ZL:=e1 ⟨by kernel_rfl,trivial⟩ (fun _=>rfl) (fun h=>by rfl) (fun K h=>by cases h)
theorem apt:eu bz 124 Zv:=e1 ⟨by kernel_rfl,trivial⟩ (fun _=>rfl) (fun h=>by rfl) (fun K h=>by cases h)
theorem apT:eu bz 26 ZM:=e1 ⟨by kernel_rfl,trivial⟩ (fun _=>rfl) (fun h=>by rfl) (fun K h=>by cases h)
theorem apr:eu bz 120 Zt:=e1 ⟨by kernel_rfl,trivial⟩ (fun _=>rfl) (fun h=>by rfl) (fun K h=>by cases h)
theorem apU:eu bz 27 ZN:=e1 ⟨by kernel_rfl,trivial⟩ (fun _=>rfl) (fun h=>by rfl) (fun K h=>by cases h)
theorem apF:eu bz 166 Pq:=e1 trivial (fun _=>rfl) (fun h=>by cases h) (fun K h=>by cases h)
theorem aps:eu bz 121 Zu:=e1 ⟨by kernel_rfl,trivial⟩ (fun _=>rfl) (fun h=>by rfl) (fun K h=>by cases h)
theorem apV:eu bz 28 ZO:=e1 ⟨by kernel_rfl,trivial⟩ (fun _=>rfl) (fun h=>by rfl) (fun K h=>by cases h)
theorem apX:eu bz 30 ZP:=e1 ⟨by kernel_rfl,by kernel_rfl,by kernel_rfl,by kernel_rfl,by kernel_rfl,trivial⟩ (fun _=>rfl) (fun h=>by cases h) (fun K h=>by cases h)
theorem apY:eu bz 31 ZQ:=e1 trivial (fun _=>rfl) (fun h=>by rfl) (fun K h F w xs k ad=>by cases h;obtain ⟨v,vs,rfl,I,rfl⟩:=ad;exact I)
theorem ap2:eu bz 69 ZR:=e1 ⟨by kernel_rfl,by kernel_rfl,by kernel_rfl,by kernel_rfl,by kernel_rfl,trivial⟩ (fun _=>rfl) (fun h=>by cases h) (fun K h=>by cases h)
theorem apu:eu bz 126 Zw:=e1 ⟨by kernel_rfl,trivial⟩ (fun _=>rfl) (fun h=>by rfl) (fun K h=>by cases h)
theorem apw:eu bz 129 Zx:=e1 ⟨by kernel_rfl,trivial⟩ (fun _=>rfl) (fun h=>by rfl) (fun K h=>by cases h)
theorem apz:eu bz 132 Zz:=e1 ⟨by kernel_rfl,trivial⟩ (fun _=>rfl) (fun h=>by rfl) (fun K h=>by cases h)
theorem apH:eu bz 192 ZB:=e1 trivial (fun _=>rfl) (fun h=>by rfl) (fun K h F w xs k ad=>by cases h;obtain ⟨v,vs,rfl,I,rfl⟩:=ad;exact I)
theorem apJ:eu bz 202 ZC:=e1 ⟨by kernel_rfl,trivial⟩ (fun _=>rfl) (fun h=>by rfl) (fun K h=>by cases h)
theorem apK:eu bz 204 ZD:=e1 ⟨by kernel_rfl,trivial⟩ (fun _=>rfl) (fun h=>by rfl) (fun K h=>by cases h)
theorem apL:eu bz 219 ZF:=e1 trivial (fun _=>rfl) (fun h=>by rfl) (fun K h=>by cases h)
theorem apN:eu bz 220 ZH:=e1 trivial (fun _=>rfl) (fun h=>by rfl) (fun K h=>by cases h)
theorem apO:eu bz 223 ZI:=e1 trivial (fun _=>rfl) (fun h=>by rfl) (fun K h=>by cases h)
theorem apP:eu bz 224 ZJ:=e1 trivial (fun _=>rfl) (fun h=>by rfl) (fun K h=>by cases h)
theorem af1:vw bz:=aBN ⟨apn,apP,apO,apN,apL,apK,apJ,apH,apz,apw,apu,ap2,apY,apX,apV,aps,apF,apU,apr,apT,apt,apS,apA,apy,apD,apv,apB,apR,apQ,apM,app,apo,ap5,ap3,ap1,ap0,apZ,apW,trivial⟩
end Go.Proofs.YteeliipnilghaaaGreat
namespace Go.Proofs.YteeliipnilghaaaGreat
open Go Go.RowKit au J bn
noncomputable def aH:Env:=⟨Tryz.prog,bz,[],false,(List.range 174).drop 2,5,fun l=>l⟩
noncomputable def kI:Env:=⟨Tryz.prog,bz,[],true,(List.range 174).drop 2,5,fun l=>l⟩
noncomputable def ib:cU aH:=⟨[],[]⟩
theorem ax3 (a3:c8 aH) (h:ib.cM):(ib.f 37 ((k9 aH.T 3 8).run aH)).cM:=h.G0 a3 rfl rfl (by kernel_rfl) (fun a c=>by kernel_rfl) fun d l=>by kernel_rfl
noncomputable def yq:cU aH:=ib.f 37 ((k9 aH.T 3 8).run aH)
theorem ax4 (a3:c8 aH) (h:yq.cM):(yq.f 108 ((k9 aH.T 136 40).run aH)).cM:=h.G0 a3 rfl rfl (by kernel_rfl) (fun a c=>by kernel_rfl) fun d l=>by kernel_rfl
noncomputable def pa:cU aH:=yq.f 108 ((k9 aH.T 136 40).run aH)
theorem ax5 (a3:c8 aH) (h:pa.cM):(pa.f 109 ((k9 aH.T 131 128).run aH)).cM:=h.G0 a3 rfl rfl (by kernel_rfl) (fun a c=>by kernel_rfl) fun d l=>by kernel_rfl
noncomputable def N1:cU aH:=pa.f 109 ((k9 aH.T 131 128).run aH)
theorem ax6 (a3:c8 aH) (h:N1.cM):(N1.f 110 ((k9 aH.T 128 24).run aH)).cM:=h.G0 a3 rfl rfl (by kernel_rfl) (fun a c=>by kernel_rfl) fun d l=>by kernel_rfl
noncomputable def N2:cU aH:=N1.f 110 ((k9 aH.T 128 24).run aH)
theorem ax7 (a3:c8 aH) (h:N2.cM):(N2.f 111 ((k9 aH.T 157 40).run aH)).cM:=h.G0 a3 rfl rfl (by kernel_rfl) (fun a c=>by kernel_rfl) fun d l=>by kernel_rfl
noncomputable def ajX:cU aH:=N2.f 111 ((k9 aH.T 157 40).run aH)
end Go.Proofs.YteeliipnilghaaaGreat
namespace Go.Proofs.YteeliipnilghaaaGreat
open Go Go.RowKit au J bn
theorem ayF:yv Tryz.prog bz 136 Po:=by
 intro f af F w xs ys d e ad hy o a x y t' b av pL pM w'
 obtain rfl:=Option.some.inj af
 obtain ⟨_,_,rfl,rfl,_,_,rfl,rfl,_,_,rfl,rfl,rfl⟩:=ad
 obtain ⟨_,_,rfl,rfl,_,_,rfl,rfl,_,_,rfl,rfl,rfl⟩:=hy
 cases b
 · exact aqD av pL pM
 · exact aqz av pL pM
theorem ayE:yv Tryz.prog bz 128 Pn:=by
 intro f af F w xs ys d e ad hy o a x y t' b av pL pM w'
 obtain rfl:=Option.some.inj af
 obtain ⟨_,_,rfl,rfl,_,_,rfl,rfl,rfl⟩:=ad
 obtain ⟨_,_,rfl,rfl,_,_,rfl,rfl,rfl⟩:=hy
 cases b
 · exact aqF av pL pM
 · exact aqB av pL pM
theorem ayG:yv Tryz.prog bz 157 Pp:=by
 intro f af F w xs ys d e ad hy o a x y t' b av pL pM w'
 obtain rfl:=Option.some.inj af
 obtain ⟨_,_,rfl,rfl,_,_,rfl,rfl,_,_,rfl,rfl,_,_,rfl,rfl,rfl⟩:=ad
 obtain ⟨_,_,rfl,rfl,_,_,rfl,rfl,_,_,rfl,rfl,_,_,rfl,rfl,rfl⟩:=hy
 cases b
 · exact aqE av pL pM
 · exact aqA av pL pM
theorem ayH:yv Tryz.prog bz 166 Pq:=by
 intro f af F w xs ys d e ad hy o a x y t' b av pL pM w'
 obtain rfl:=Option.some.inj af
 obtain ⟨_,_,rfl,rfl,_,_,rfl,rfl,rfl⟩:=ad
 obtain ⟨_,_,rfl,rfl,_,_,rfl,rfl,rfl⟩:=hy
 cases b
 · exact aqG av pL pM
 · exact aqC av pL pM
theorem Z6:Pu Tryz.prog bz bz.es:=⟨fg rfl,fg rfl,fg rfl,fg rfl,fg rfl,fg rfl,fg rfl,fg rfl,fg rfl,fg rfl,fg rfl,fg rfl,fg rfl,fg rfl,fg rfl,fg rfl,ayH,fg rfl,fg rfl,fg rfl,fg rfl,fg rfl,fg rfl,fg rfl,ayG,ayE,ayF,fg rfl,fg rfl,fg rfl,fg rfl,fg rfl,fg rfl,fg rfl,fg rfl,fg rfl,fg rfl,fg rfl,trivial⟩
theorem aaY:LC Tryz.prog aH.ca=true:=by kernel_rfl
theorem YB (F:Nat->Prop) (w:World) (l:List UInt8) (xs:List Value) (h:dS MC F w xs l):dS (bz.ty 5) F w xs l:=by
 refine L4 (A:=MC) (B:=bz.ty 5) (fun cs d h=>?_) h
 change fc (fun t=>(fC Py t).ty) F w [.y] cs (d,())
 exact ⟨_,_,h,rfl,rfl⟩
theorem ly:c8 aH:=⟨af1,fun f af=>ad4 (TE aaY af),by kernel_rfl,fun l=>rfl,YB,fun t=>Pt Z6⟩
theorem JB:c8 kI:=⟨af1,fun f af=>ad4 (TE aaY af),by kernel_rfl,fun l=>rfl,YB,fun t=>Pt Z6⟩
end Go.Proofs.YteeliipnilghaaaGreat
namespace J
def fv (dh:Int) (Gd:Int) (Gp:Int):Option (Bool):=
 some ((decide (Gd<=dh)) && (decide (dh<=Gp)))
def lJ (dh:Int) (Gd:Int) (Gp:Int):Option (Bool):=
 some ((decide (Gd<=dh)) && (decide (dh<=Gp)))
def KG (aS:Int):Option (Bool):=
 some ((decide (aS= 3)) || (decide (aS= 4)))
def zS (oD:List UInt8):Nat->Int->Option (Way (Bool) (Unit))
 | 0,_=>none
 | bL+ 1,wT=>
   cond (decide (wT <(oD.length:Int))) ((idx oD wT).bind fun Bg=>
   cond (((((decide ((Bg.toNat:Int) < 97)) || (decide (122 <(Bg.toNat:Int)))) && ((decide ((Bg.toNat:Int) < 65)) || (decide (90 <(Bg.toNat:Int))))) && ((decide ((Bg.toNat:Int) < 48)) || (decide (57 <(Bg.toNat:Int))))) && (!decide ((Bg.toNat:Int)= 95))) (some (.out false)) (zS oD bL (aA (wT+ 1)))) (some (.go ()))
def mH (F:Nat) (s_:List UInt8):Option (Bool):=
 (bytesOf s_).bind fun oD=>
 cd (α:=Unit) (zS oD F 0) fun (_:Unit)=>
 some ((!decide (s_= [])) && (decide ((s_.length:Int)<= 20)))
def tE (F:Nat) (aS:Kind):Option (Bool):=
 (KG aS.Kind).bind fun U5=>
 cond (U5) ((mH F aS.ap).bind fun U9=>
 some U9) (some (((decide (aS.Kind= 1)) || (decide (aS.Kind= 2))) && (decide (aS.ap= []))))
def qW (s_:List UInt8):Nat->Int->Option (Way (Bool) (Unit))
 | 0,_=>none
 | bL+ 1,Tj=>
   cond (decide (Tj <(s_.length:Int))) ((idx s_ Tj).bind fun zk=>
   cond (!(((((decide (97 <=(zk.toNat:Int))) && (decide ((zk.toNat:Int)<= 122))) || ((decide (65 <=(zk.toNat:Int))) && (decide ((zk.toNat:Int)<= 90)))) || ((decide (48 <=(zk.toNat:Int))) && (decide ((zk.toNat:Int)<= 57)))) || (decide ((zk.toNat:Int)= 95)))) (some (.out false)) (qW s_ bL (aA (Tj+ 1)))) (some (.go ()))
def m' (F:Nat) (s_:List UInt8):Option (Bool):=
 cd (α:=Unit) (qW s_ F 0) fun (_:Unit)=>
 some ((decide (1 <=(s_.length:Int))) && (decide ((s_.length:Int)<= 20)))
def sE (F:Nat) (aS:Kind):Option (Bool):=
 cond ((decide (aS.Kind= 1)) || (decide (aS.Kind= 2))) (some (decide (aS.ap= []))) (cond ((decide (aS.Kind= 3)) || (decide (aS.Kind= 4))) ((m' F aS.ap).bind fun ux=>
 some ux) (some false))
end J
namespace J
def wo (F:Nat) (m_:Method):Nat->Int->Option (Way (Int) (Unit))
 | 0,_=>none
 | bL+ 1,w1=>
   cond (decide (w1 <(m_.cw.length:Int))) ((idx m_.cw w1).bind fun aiT=>
   (tE F (⟨aiT.Kind,aiT.ap⟩:Kind)).bind fun az'=>
   cond (!az') (some (.out 7)) (wo F m_ bL (aA (w1+ 1)))) (some (.go ()))
def zW (F:Nat) (m_:Method):Nat->Int->Option (Way (Int) (Unit))
 | 0,_=>none
 | ew+ 1,Am=>
   cond (decide (Am <(m_.cz.length:Int))) ((idx m_.cz Am).bind fun M_=>
   (mH F M_.ap).bind fun U0=>
   cond (!U0) (some (.out 1)) ((lJ M_.From 0 200).bind fun oR=>
   cond (!oR) (some (.out 3)) ((lJ M_.To 0 200).bind fun U1=>
   cond (!U1) (some (.out 3)) ((lJ M_.hV 0 200).bind fun U2=>
   cond (!U2) (some (.out 3)) (zW F m_ ew (aA (Am+ 1))))))) (some (.go ()))
def pT (F:Nat) (m_:Method):Nat->Int->Option (Way (Int) (Unit))
 | 0,_=>none
 | gU+ 1,k3=>
   cond (decide (k3 <(m_.cz.length:Int))) ((idx m_.cz k3).bind fun Ng=>
   (mH F Ng.ap).bind fun azC=>
   cond (!azC) (some (.out 1)) ((lJ Ng.From 0 200).bind fun azD=>
   cond (!azD) (some (.out 3)) ((lJ Ng.To 0 200).bind fun azE=>
   cond (!azE) (some (.out 3)) ((lJ Ng.hV 0 200).bind fun azF=>
   cond (!azF) (some (.out 3)) (pT F m_ gU (aA (k3+ 1))))))) (some (.go ()))
def zV (F:Nat) (m_:Method):Option (Int):=
 (mH F m_.Name).bind fun AE=>
 cond (!AE) (some 1) (cond (((decide (4 <(m_.cw.length:Int))) || (decide (200 <(m_.Code.length:Int)))) || (decide (4 <(m_.cz.length:Int)))) (some 2) ((lJ m_.g8 0 10).bind fun iw=>
 cond (!iw) (some 3) ((lJ m_.g5 0 10).bind fun AC=>
 cond (!AC) (some 3) (cd (α:=Unit) (wo F m_ F 0) fun (_:Unit)=>
 cond (!decide ((⟨m_.Returns.Kind,m_.Returns.ap⟩:Kind)=(⟨0,[]⟩:Kind))) ((tE F (⟨m_.Returns.Kind,m_.Returns.ap⟩:Kind)).bind fun aAa=>
 cond (!aAa) (some 7) (cd (α:=Unit) (zW F m_ F 0) fun (_:Unit)=>
 some 0)) (cd (α:=Unit) (pT F m_ F 0) fun (_:Unit)=>
 some 0)))))
def zT (F:Nat) (c_:ap):Nat->Int->Option (Way (Int) (Unit))
 | 0,_=>none
 | bL+ 1,k5=>
   cond (decide (k5 <(c_.Fields.length:Int))) ((idx c_.Fields k5).bind fun Xh=>
   (mH F Xh.Name).bind fun GY=>
   cond (!GY) (some (.out 1)) ((tE F (⟨Xh.Kind.Kind,Xh.Kind.ap⟩:Kind)).bind fun GQ=>
   cond (!GQ) (some (.out 7)) (zT F c_ bL (aA (k5+ 1))))) (some (.go ()))
def zU (F:Nat) (c_:ap):Nat->Int->Option (Way (Int) (Unit))
 | 0,_=>none
 | ew+ 1,Am=>
   cond (decide (Am <(c_.bc.length:Int))) ((idx c_.bc Am).bind fun uT=>
   (zV F (⟨uT.Name,uT.Static,uT.cw,(⟨uT.Returns.Kind,uT.Returns.ap⟩:Kind),uT.g8,uT.g5,uT.Code,uT.cz⟩:Method)).bind fun oR=>
   cond (!decide (oR= 0)) (some (.out oR)) (zU F c_ ew (aA (Am+ 1)))) (some (.go ()))
def tD (F:Nat) (c_:ap):Nat->Int->Option (Way (Int) (Unit))
 | 0,_=>none
 | gU+ 1,mM=>
   cond (decide (mM <(c_.Fields.length:Int))) ((idx c_.Fields mM).bind fun WC=>
   (mH F WC.Name).bind fun azu=>
   cond (!azu) (some (.out 1)) ((tE F (⟨WC.Kind.Kind,WC.Kind.ap⟩:Kind)).bind fun azv=>
   cond (!azv) (some (.out 7)) (tD F c_ gU (aA (mM+ 1))))) (some (.go ()))
def pS (F:Nat) (c_:ap):Nat->Int->Option (Way (Int) (Unit))
 | 0,_=>none
 | k0+ 1,k4=>
   cond (decide (k4 <(c_.bc.length:Int))) ((idx c_.bc k4).bind fun uY=>
   (zV F (⟨uY.Name,uY.Static,uY.cw,(⟨uY.Returns.Kind,uY.Returns.ap⟩:Kind),uY.g8,uY.g5,uY.Code,uY.cz⟩:Method)).bind fun aeO=>
   cond (!decide (aeO= 0)) (some (.out aeO)) (pS F c_ k0 (aA (k4+ 1)))) (some (.go ()))
def F5 (F:Nat) (c_:ap):Option (Int):=
 (mH F c_.Name).bind fun AE=>
 cond (!AE) (some 1) (cond (!decide (c_.cP= [])) ((mH F c_.cP).bind fun iw=>
 cond (!iw) (some 1) (cond ((decide (6 <(c_.Fields.length:Int))) || (decide (8 <(c_.bc.length:Int)))) (some 2) (cd (α:=Unit) (zT F c_ F 0) fun (_:Unit)=>
 cd (α:=Unit) (zU F c_ F 0) fun (_:Unit)=>
 some 0))) (cond ((decide (6 <(c_.Fields.length:Int))) || (decide (8 <(c_.bc.length:Int)))) (some 2) (cd (α:=Unit) (tD F c_ F 0) fun (_:Unit)=>
 cd (α:=Unit) (pS F c_ F 0) fun (_:Unit)=>
 some 0)))
def wm (F:Nat) (a_:List ap):Nat->Int->Option (Way (Int) (Unit))
 | 0,_=>none
 | bL+ 1,w4=>
   cond (decide (w4 <(a_.length:Int))) ((idx a_ w4).bind fun Nt=>
   (F5 F (⟨Nt.Name,Nt.cP,Nt.Fields,Nt.bc⟩:ap)).bind fun aeI=>
   cond (!decide (aeI= 0)) (some (.out aeI)) (wm F a_ bL (aA (w4+ 1)))) (some (.go ()))
def F4 (F:Nat) (a_:List ap):Option (Int):=
 cond (decide (10 <(a_.length:Int))) (some 2) (cd (α:=Unit) (wm F a_ F 0) fun (_:Unit)=>
 some 0)
def yR (F:Nat) (m_:Method):Nat->Int->Option (Way (Int) (Unit))
 | 0,_=>none
 | bL+ 1,Tt=>
   cond (decide (Tt <(m_.cw.length:Int))) ((idx m_.cw Tt).bind fun aFj=>
   (sE F aFj).bind fun az7=>
   cond (!az7) (some (.out 7)) (yR F m_ bL (aA (Tt+ 1)))) (some (.go ()))
def yS (F:Nat) (m_:Method):Nat->Int->Option (Way (Int) (Unit))
 | 0,_=>none
 | ew+ 1,Tf=>
   cond (decide (Tf <(m_.cz.length:Int))) ((idx m_.cz Tf).bind fun M9=>
   (m' F M9.ap).bind fun azm=>
   cond (!azm) (some (.out 1)) ((fv M9.From 0 200).bind fun azp=>
   cond (!azp) (some (.out 3)) ((fv M9.To 0 200).bind fun azq=>
   cond (!azq) (some (.out 3)) ((fv M9.hV 0 200).bind fun azr=>
   cond (!azr) (some (.out 3)) (yS F m_ ew (aA (Tf+ 1))))))) (some (.go ()))
def yQ (F:Nat) (m_:Method):Option (Int):=
 (m' F m_.Name).bind fun AE=>
 cond (!AE) (some 1) (cond (((decide (4 <(m_.cw.length:Int))) || (decide (200 <(m_.Code.length:Int)))) || (decide (4 <(m_.cz.length:Int)))) (some 2) ((fv m_.g8 0 10).bind fun iw=>
 cond (!iw) (some 3) ((fv m_.g5 0 10).bind fun AC=>
 cond (!AC) (some 3) (cd (α:=Unit) (yR F m_ F 0) fun (_:Unit)=>
 (sE F (⟨m_.Returns.Kind,m_.Returns.ap⟩:Kind)).bind fun az_=>
 cond ((!az_) && ((!decide (m_.Returns.Kind= 0)) || (!decide (m_.Returns.ap= [])))) (some 7) (cd (α:=Unit) (yS F m_ F 0) fun (_:Unit)=>
 some 0)))))
def BG (F:Nat) (ff:ap):Nat->Int->Option (Way (Int) (Unit))
 | 0,_=>none
 | ew+ 1,Ln=>
   cond (decide (Ln <(ff.Fields.length:Int))) ((idx ff.Fields Ln).bind fun aEV=>
   (m' F aEV.Name).bind fun azW=>
   cond (!azW) (some (.out 1)) ((idx ff.Fields Ln).bind fun aik=>
   (sE F (⟨aik.Kind.Kind,aik.Kind.ap⟩:Kind)).bind fun azX=>
   cond (!azX) (some (.out 7)) (BG F ff ew (aA (Ln+ 1))))) (some (.go ()))
def BH (F:Nat) (ff:ap):Nat->Int->Option (Way (Int) (Unit))
 | 0,_=>none
 | gU+ 1,Tr=>
   cond (decide (Tr <(ff.bc.length:Int))) ((idx ff.bc Tr).bind fun aEW=>
   (yQ F aEW).bind fun aeR=>
   cond (!decide (aeR= 0)) (some (.out aeR)) (BH F ff gU (aA (Tr+ 1)))) (some (.go ()))
def vg (F:Nat) (ff:ap):Nat->Int->Option (Way (Int) (Unit))
 | 0,_=>none
 | k0+ 1,Ap=>
   cond (decide (Ap <(ff.Fields.length:Int))) ((idx ff.Fields Ap).bind fun aEX=>
   (m' F aEX.Name).bind fun azY=>
   cond (!azY) (some (.out 1)) ((idx ff.Fields Ap).bind fun aim=>
   (sE F (⟨aim.Kind.Kind,aim.Kind.ap⟩:Kind)).bind fun azZ=>
   cond (!azZ) (some (.out 7)) (vg F ff k0 (aA (Ap+ 1))))) (some (.go ()))
def vh (F:Nat) (ff:ap):Nat->Int->Option (Way (Int) (Unit))
 | 0,_=>none
 | rv+ 1,C1=>
   cond (decide (C1 <(ff.bc.length:Int))) ((idx ff.bc C1).bind fun aEY=>
   (yQ F aEY).bind fun aeS=>
   cond (!decide (aeS= 0)) (some (.out aeS)) (vh F ff rv (aA (C1+ 1)))) (some (.go ()))
def yB (F:Nat) (a_:List ap):Nat->Int->Option (Way (Int) (Unit))
 | 0,_=>none
 | bL+ 1,Tn=>
   cond (decide (Tn <(a_.length:Int))) (cT (α:=Unit) ((idx a_ Tn).bind fun ff=>
   (m' F ff.Name).bind fun azS=>
   cond (!azS) (some (.out 1)) (cond (!decide (ff.cP= [])) ((m' F ff.cP).bind fun azT=>
   cond (!azT) (some (.out 1)) (cond ((decide (6 <(ff.Fields.length:Int))) || (decide (8 <(ff.bc.length:Int)))) (some (.out 2)) (cT (α:=Unit) (BG F ff F 0) fun (_:Unit)=>
   cT (α:=Unit) (BH F ff F 0) fun (_:Unit)=>
   some (.go ())))) (cond ((decide (6 <(ff.Fields.length:Int))) || (decide (8 <(ff.bc.length:Int)))) (some (.out 2)) (cT (α:=Unit) (vg F ff F 0) fun (_:Unit)=>
   cT (α:=Unit) (vh F ff F 0) fun (_:Unit)=>
   some (.go ()))))) fun (_:Unit)=>
   yB F a_ bL (aA (Tn+ 1))) (some (.go ()))
def Ew (F:Nat) (a_:List ap):Option (Int):=
 cond (decide (10 <(a_.length:Int))) (some 2) (cd (α:=Unit) (yB F a_ F 0) fun (_:Unit)=>
 some 0)
end J
namespace J
def n' (b9:List Kind) (cx:List Kind):Nat->Int->Option (Way (Bool) (Unit))
 | 0,_=>none
 | bL+ 1,cV=>
   cond (decide (cV <(b9.length:Int))) ((idx b9 cV).bind fun l7=>
   (idx cx cV).bind fun l8=>
   cond (!decide (l7=l8)) (some (.out false)) (n' b9 cx bL (aA (cV+ 1)))) (some (.go ()))
def sF (F:Nat) (b9:List Kind) (cx:List Kind):Option (Bool):=
 cond (!decide ((b9.length:Int)=(cx.length:Int))) (some false) (cd (α:=Unit) (n' b9 cx F 0) fun (_:Unit)=>
 some true)
def y3 (b9:List Field) (cx:List Field):Nat->Int->Option (Way (Bool) (Unit))
 | 0,_=>none
 | bL+ 1,cV=>
   cond (decide (cV <(b9.length:Int))) ((idx b9 cV).bind fun l7=>
   (idx cx cV).bind fun l8=>
   cond (!decide (l7=l8)) (some (.out false)) (y3 b9 cx bL (aA (cV+ 1)))) (some (.go ()))
def BM (F:Nat) (b9:List Field) (cx:List Field):Option (Bool):=
 cond (!decide ((b9.length:Int)=(cx.length:Int))) (some false) (cd (α:=Unit) (y3 b9 cx F 0) fun (_:Unit)=>
 some true)
def y2 (m1:Method) (nY:Method):Nat->Int->Option (Way (Bool) (Unit))
 | 0,_=>none
 | gU+ 1,Lg=>
   cond (decide (Lg <(m1.cz.length:Int))) ((idx m1.cz Lg).bind fun aDw=>
   (idx nY.cz Lg).bind fun aDx=>
   cond (!decide (aDw=aDx)) (some (.out false)) (y2 m1 nY gU (aA (Lg+ 1)))) (some (.go ()))
def y1 (F:Nat) (uO:ap) (xM:ap):Nat->Int->Option (Way (Bool) (Unit))
 | 0,_=>none
 | ew+ 1,Lf=>
   cond (decide (Lf <(uO.bc.length:Int))) (cT (α:=Unit) ((idx uO.bc Lf).bind fun m1=>
   (idx xM.bc Lf).bind fun nY=>
   cond ((!decide (m1.Name=nY.Name)) || (!(m1.Static == nY.Static))) (some (.out false)) ((sF F m1.cw nY.cw).bind fun azd=>
   cond (!azd) (some (.out false)) (cond (((((!decide ((⟨m1.Returns.Kind,m1.Returns.ap⟩:Kind)=(⟨nY.Returns.Kind,nY.Returns.ap⟩:Kind))) || (!decide (m1.g8=nY.g8))) || (!decide (m1.g5=nY.g5))) || (!decide (m1.Code=nY.Code))) || (!decide ((m1.cz.length:Int)=(nY.cz.length:Int)))) (some (.out false)) (cT (α:=Unit) (y2 m1 nY F 0) fun (_:Unit)=>
   some (.go ()))))) fun (_:Unit)=>
   y1 F uO xM ew (aA (Lf+ 1))) (some (.go ()))
def y0 (F:Nat) (b9:List ap) (cx:List ap):Nat->Int->Option (Way (Bool) (Unit))
 | 0,_=>none
 | bL+ 1,Ld=>
   cond (decide (Ld <(b9.length:Int))) (cT (α:=Unit) ((idx b9 Ld).bind fun uO=>
   (idx cx Ld).bind fun xM=>
   cond ((!decide (uO.Name=xM.Name)) || (!decide (uO.cP=xM.cP))) (some (.out false)) ((BM F uO.Fields xM.Fields).bind fun aza=>
   cond ((!aza) || (!decide ((uO.bc.length:Int)=(xM.bc.length:Int)))) (some (.out false)) (cT (α:=Unit) (y1 F uO xM F 0) fun (_:Unit)=>
   some (.go ())))) fun (_:Unit)=>
   y0 F b9 cx bL (aA (Ld+ 1))) (some (.go ()))
def BL (F:Nat) (b9:List ap) (cx:List ap):Option (Bool):=
 cond (!decide ((b9.length:Int)=(cx.length:Int))) (some false) (cd (α:=Unit) (y0 F b9 cx F 0) fun (_:Unit)=>
 some true)
def vp (b9:aU) (cx:aU):Nat->Int->Option (Way (Bool) (Unit))
 | 0,_=>none
 | bL+ 1,ur=>
   cond (decide (ur <(b9.a8.length:Int))) ((idx b9.a8 ur).bind fun aCU=>
   (idx cx.a8 ur).bind fun Wa=>
   cond (!decide (aCU=Wa)) (some (.out false)) (vp b9 cx bL (aA (ur+ 1)))) (some (.go ()))
def y4 (F:Nat) (b9:aU) (cx:aU):Nat->Int->Option (Way (Bool) (Unit))
 | 0,_=>none
 | ew+ 1,Lh=>
   cond (decide (Lh <(b9.Fields.length:Int))) ((idx b9.Fields Lh).bind fun aDN=>
   (idx cx.Fields Lh).bind fun aDP=>
   (BM F aDN aDP).bind fun azt=>
   cond (!azt) (some (.out false)) (y4 F b9 cx ew (aA (Lh+ 1)))) (some (.go ()))
def y6 (b9:aU) (cx:aU) (rN:Int):Nat->Int->Option (Way (Bool) (Unit))
 | 0,_=>none
 | k0+ 1,Ll=>
   (idx b9.Names rN).bind fun aD5=>
   cond (decide (Ll <(aD5.length:Int))) ((idx b9.Names rN).bind fun aD6=>
   (idx aD6 Ll).bind fun aD9=>
   (idx cx.Names rN).bind fun aD'=>
   (idx aD' Ll).bind fun aEb=>
   cond (!decide (aD9=aEb)) (some (.out false)) (y6 b9 cx rN k0 (aA (Ll+ 1)))) (some (.go ()))
def y5 (F:Nat) (b9:aU) (cx:aU):Nat->Int->Option (Way (Bool) (Unit))
 | 0,_=>none
 | gU+ 1,rN=>
   cond (decide (rN <(b9.Names.length:Int))) (cT (α:=Unit) ((idx b9.Names rN).bind fun aDZ=>
   (idx cx.Names rN).bind fun aD0=>
   cond (!decide ((aDZ.length:Int)=(aD0.length:Int))) (some (.out false)) (cT (α:=Unit) (y6 b9 cx rN F 0) fun (_:Unit)=>
   some (.go ()))) fun (_:Unit)=>
   y5 F b9 cx gU (aA (rN+ 1))) (some (.go ()))
def y8 (b9:aU) (cx:aU) (rS:Int):Nat->Int->Option (Way (Bool) (Unit))
 | 0,_=>none
 | ww+ 1,Lr=>
   (idx b9.a9 rS).bind fun aFe=>
   cond (decide (Lr <(aFe.length:Int))) ((idx b9.a9 rS).bind fun aFf=>
   (idx aFf Lr).bind fun aFg=>
   (idx cx.a9 rS).bind fun aFh=>
   (idx aFh Lr).bind fun aFi=>
   cond (!decide (aFg=aFi)) (some (.out false)) (y8 b9 cx rS ww (aA (Lr+ 1)))) (some (.go ()))
def y7 (F:Nat) (b9:aU) (cx:aU):Nat->Int->Option (Way (Bool) (Unit))
 | 0,_=>none
 | rv+ 1,rS=>
   cond (decide (rS <(b9.a9.length:Int))) (cT (α:=Unit) ((idx b9.a9 rS).bind fun aFc=>
   (idx cx.a9 rS).bind fun aFd=>
   cond (!decide ((aFc.length:Int)=(aFd.length:Int))) (some (.out false)) (cT (α:=Unit) (y8 b9 cx rS F 0) fun (_:Unit)=>
   some (.go ()))) fun (_:Unit)=>
   y7 F b9 cx rv (aA (rS+ 1))) (some (.go ()))
def BN (F:Nat) (b9:aU) (cx:aU):Option (Bool):=
 (BL F b9.ba cx.ba).bind fun U4=>
 cond (((((!U4) || (!decide ((cx.a8.length:Int)=(b9.a8.length:Int)))) || (!decide ((b9.Fields.length:Int)=(cx.Fields.length:Int)))) || (!decide ((b9.Names.length:Int)=(cx.Names.length:Int)))) || (!decide ((b9.a9.length:Int)=(cx.a9.length:Int)))) (some false) (cd (α:=Unit) (vp b9 cx F 0) fun (_:Unit)=>
 cd (α:=Unit) (y4 F b9 cx F 0) fun (_:Unit)=>
 cd (α:=Unit) (y5 F b9 cx F 0) fun (_:Unit)=>
 cd (α:=Unit) (y7 F b9 cx F 0) fun (_:Unit)=>
 some true)
def yT (a_:List ap) (Lu:List UInt8):Nat->Int->Option (Way (Int) (Unit))
 | 0,_=>none
 | bL+ 1,Lp=>
   cond (decide (Lp <(a_.length:Int))) ((idx a_ Lp).bind fun aFm=>
   cond (decide (aFm.Name=Lu)) (some (.out Lp)) (yT a_ Lu bL (aA (Lp+ 1)))) (some (.go ()))
def m9 (F:Nat) (a_:List ap) (Lu:List UInt8):Option (Int):=
 cd (α:=Unit) (yT a_ Lu F 0) fun (_:Unit)=>
 some (-1)
def za (F:Nat) (a_:List ap):Nat->Int->(List Int)->Option (Way (List Int) (List Int))
 | 0,_,_=>none
 | bL+ 1,Td,SE=>
   cond (decide (0 <=Td)) (cond (decide ((a_.length:Int) <(SE.length:Int))) (some (.out [])) ((bK 8 [Td] SE).bind fun acV=>
   (idx a_ Td).bind fun agW=>
   (m9 F a_ agW.cP).bind fun azn=>
   za F a_ bL azn acV)) (some (.go SE))
def vu (F:Nat) (a_:List ap) (dh:Int):Option (List Int):=
 cd (α:=List Int) (za F a_ F dh []) fun (avc:List Int)=>
 some avc
def vr (F:Nat) (z2:List Kind) (a_:List ap):Nat->Int->Option (Way (Bool) (Unit))
 | 0,_=>none
 | bL+ 1,Gt=>
   cond (decide (Gt <(z2.length:Int))) ((idx z2 Gt).bind fun aFB=>
   cond (!decide (aFB.ap= [])) ((idx z2 Gt).bind fun aC0=>
   (m9 F a_ aC0.ap).bind fun ay2=>
   cond (decide (ay2 < 0)) (some (.out false)) (vr F z2 a_ bL (aA (Gt+ 1)))) (vr F z2 a_ bL (aA (Gt+ 1)))) (some (.go ()))
def y' (F:Nat) (a_:List ap) (z2:List Kind):Option (Bool):=
 cd (α:=Unit) (vr F z2 a_ F 0) fun (_:Unit)=>
 some true
def qS (a_:List ap) (ix:List Int):Nat->(List Field)->Int->Option (List Field)
 | 0,_,_=>none
 | bL+ 1,acW,Tk=>
   cond (decide (Tk <(ix.length:Int))) ((idx ix Tk).bind fun aDQ=>
   (idx a_ aDQ).bind fun aDT=>
   (bK 40 acW aDT.Fields).bind fun avz=>
   qS a_ ix bL avz (aA (Tk+ 1))) (some acW)
def yA (F:Nat) (a_:List ap) (dh:Int):Option (List Field):=
 (vu F a_ dh).bind fun ix=>
 Option.bind (α:=List Field) (qS a_ ix F [] 0) fun (avu:List Field)=>
 some avu
def pi (k1:List (List UInt8)) (o7:Method):Nat->Int->Option (Int)
 | 0,_=>none
 | gU+ 1,oN=>
   cond (decide (oN <(k1.length:Int))) ((idx k1 oN).bind fun aE_=>
   cond (!decide (aE_=o7.Name)) (pi k1 o7 gU (aA (oN+ 1))) (some oN)) (some oN)
def y_ (F:Nat) (a_:List ap) (ix:List Int) (wW:Int):Nat->(List Target)->(List (List UInt8))->Int->Option ((List Target) × (List (List UInt8)))
 | 0,_,_,_=>none
 | ew+ 1,SK,k1,Lq=>
   (idx ix wW).bind fun aE6=>
   (idx a_ aE6).bind fun aE7=>
   cond (decide (Lq <(aE7.bc.length:Int))) (Option.bind (α:=(List Target) × (List (List UInt8))) ((idx ix wW).bind fun aE8=>
   (idx a_ aE8).bind fun aE9=>
   (idx aE9.bc Lq).bind fun o7=>
   Option.bind (α:=Int) (pi k1 o7 F 0) fun (Tv:Int)=>
   Option.bind (α:=(List Target) × (List (List UInt8))) (cond (decide (Tv=(k1.length:Int))) ((bK 16 k1 [o7.Name]).bind fun awa=>
   (bK 16 SK [(⟨0,0⟩:Target)]).bind fun awb=>
   some (awb,awa)) (some (SK,k1))) fun ((ac5,av'):(List Target) × (List (List UInt8)))=>
   (idx ix wW).bind fun aE'=>
   (idx ac5 Tv).bind fun aHG=>
   (some (ac5.set (Tv).toNat (⟨aE',Lq⟩:Target))).bind fun awc=>
   some (awc,av')) fun ((av9,av_):(List Target) × (List (List UInt8)))=>
   y_ F a_ ix wW ew av9 av_ (aA (Lq+ 1))) (some (SK,k1))
def y9 (F:Nat) (a_:List ap) (ix:List Int):Nat->(List Target)->(List (List UInt8))->Int->Option ((List Target) × (List (List UInt8)))
 | 0,_,_,_=>none
 | bL+ 1,ac2,ac3,wW=>
   cond (decide (wW <(ix.length:Int))) (Option.bind (α:=(List Target) × (List (List UInt8))) (Option.bind (α:=(List Target) × (List (List UInt8))) (y_ F a_ ix wW F ac2 ac3 0) fun ((av7,av8):(List Target) × (List (List UInt8)))=>
   some (av7,av8)) fun ((av5,av6):(List Target) × (List (List UInt8)))=>
   y9 F a_ ix bL av5 av6 (aA (wW+ 1))) (some (ac2,ac3))
def ED (F:Nat) (a_:List ap) (dh:Int):Option ((List (List UInt8)) × (List Target)):=
 (vu F a_ dh).bind fun ix=>
 Option.bind (α:=(List Target) × (List (List UInt8))) (y9 F a_ ix F [] [] 0) fun ((avU,avV):(List Target) × (List (List UInt8)))=>
 some (avV,avU)
end J
namespace J
def sB (F:Nat) (a_:List ap):Nat->Int->Option (Way (Int) (Unit))
 | 0,_=>none
 | bL+ 1,k5=>
   cond (decide (k5 <(a_.length:Int))) ((idx a_ k5).bind fun aFA=>
   (m9 F a_ aFA.Name).bind fun ayZ=>
   cond (!decide (ayZ=k5)) (some (.out 6)) (sB F a_ bL (aA (k5+ 1)))) (some (.go ()))
def yK (a_:List ap):Nat->Int->Option (Way (Int) (Unit))
 | 0,_=>none
 | ew+ 1,Li=>
   cond (decide (Li <(a_.length:Int))) ((idx a_ Li).bind fun aDO=>
   (idx a_ Li).bind fun aDS=>
   cond (!((decide (aDO.Name= [79,98,106,101,99,116])) == (decide (aDS.cP= [])))) (some (.out 4)) (yK a_ ew (aA (Li+ 1)))) (some (.go ()))
def vl (F:Nat) (a_:List ap):Nat->Int->Option (Way (Int) (Unit))
 | 0,_=>none
 | gU+ 1,Gs=>
   cond (decide (Gs <(a_.length:Int))) ((idx a_ Gs).bind fun aEz=>
   cond (!decide (aEz.cP= [])) ((idx a_ Gs).bind fun aEJ=>
   (m9 F a_ aEJ.cP).bind fun azO=>
   cond (decide (azO < 0)) (some (.out 5)) (vl F a_ gU (aA (Gs+ 1)))) (vl F a_ gU (aA (Gs+ 1)))) (some (.go ()))
def yL (F:Nat) (a_:List ap):Nat->Int->Option (Way (Int) (Unit))
 | 0,_=>none
 | k0+ 1,Tq=>
   cond (decide (Tq <(a_.length:Int))) ((vu F a_ Tq).bind fun azQ=>
   cond (decide ((azQ.length:Int)= 0)) (some (.out 4)) (yL F a_ k0 (aA (Tq+ 1)))) (some (.go ()))
def yM (F:Nat) (a_:List ap) (oM:Int):Nat->Int->Option (Way (Int) (Unit))
 | 0,_=>none
 | ww+ 1,Tg=>
   (idx a_ oM).bind fun aDr=>
   cond (decide (Tg <(aDr.Fields.length:Int))) ((idx a_ oM).bind fun aDs=>
   (idx aDs.Fields Tg).bind fun agV=>
   (y' F a_ [(⟨agV.Kind.Kind,agV.Kind.ap⟩:Kind)]).bind fun azb=>
   cond (!azb) (some (.out 5)) (yM F a_ oM ww (aA (Tg+ 1)))) (some (.go ()))
def yO (F:Nat) (a_:List ap) (xU:Method):Nat->Int->Option (Way (Int) (Unit))
 | 0,_=>none
 | Sz+ 1,Ti=>
   cond (decide (Ti <(xU.cz.length:Int))) ((idx xU.cz Ti).bind fun aDB=>
   (m9 F a_ aDB.ap).bind fun azi=>
   cond (decide (azi < 0)) (some (.out 5)) (yO F a_ xU Sz (aA (Ti+ 1)))) (some (.go ()))
def yN (F:Nat) (a_:List ap) (oM:Int):Nat->Int->Option (Way (Int) (Unit))
 | 0,_=>none
 | KP+ 1,Th=>
   (idx a_ oM).bind fun aDy=>
   cond (decide (Th <(aDy.bc.length:Int))) (cT (α:=Unit) ((idx a_ oM).bind fun aDz=>
   (idx aDz.bc Th).bind fun xU=>
   (y' F a_ xU.cw).bind fun azg=>
   cond (!azg) (some (.out 5)) ((y' F a_ [(⟨xU.Returns.Kind,xU.Returns.ap⟩:Kind)]).bind fun azh=>
   cond (!azh) (some (.out 5)) (cT (α:=Unit) (yO F a_ xU F 0) fun (_:Unit)=>
   some (.go ())))) fun (_:Unit)=>
   yN F a_ oM KP (aA (Th+ 1))) (some (.go ()))
def vm (F:Nat) (a_:List ap):Nat->Int->Option (Way (Int) (Unit))
 | 0,_=>none
 | rv+ 1,oM=>
   cond (decide (oM <(a_.length:Int))) (cT (α:=Unit) (cT (α:=Unit) (yM F a_ oM F 0) fun (_:Unit)=>
   cT (α:=Unit) (yN F a_ oM F 0) fun (_:Unit)=>
   some (.go ())) fun (_:Unit)=>
   vm F a_ rv (aA (oM+ 1))) (some (.go ()))
def yG (uw:List Field) (Ao:Int):Nat->Int->Option (Way (Int) (Unit))
 | 0,_=>none
 | au1+ 1,Tp=>
   cond (decide (Tp <Ao)) ((idx uw Tp).bind fun aEm=>
   (idx uw Ao).bind fun aEn=>
   cond (decide (aEm.Name=aEn.Name)) (some (.out 6)) (yG uw Ao au1 (aA (Tp+ 1)))) (some (.go ()))
def yF (F:Nat) (uw:List Field):Nat->Int->Option (Way (Int) (Unit))
 | 0,_=>none
 | au0+ 1,Ao=>
   cond (decide (Ao <(uw.length:Int))) (cT (α:=Unit) (cT (α:=Unit) (yG uw Ao F 0) fun (_:Unit)=>
   some (.go ())) fun (_:Unit)=>
   yF F uw au0 (aA (Ao+ 1))) (some (.go ()))
def qV (hT:ap) (iu:Int):Nat->Int->Option (Way (Int) (Unit))
 | 0,_=>none
 | au3+ 1,rP=>
   cond (decide (rP <iu)) ((idx hT.bc rP).bind fun aED=>
   (idx hT.bc iu).bind fun aEE=>
   cond (decide (aED.Name=aEE.Name)) (some (.out 6)) (qV hT iu au3 (aA (rP+ 1)))) (some (.go ()))
def qU (F:Nat) (hT:ap):Nat->Int->Option (Way (Int) (Unit))
 | 0,_=>none
 | au2+ 1,iu=>
   cond (decide (iu <(hT.bc.length:Int))) (cT (α:=Unit) (cT (α:=Unit) (qV hT iu F 0) fun (_:Unit)=>
   some (.go ())) fun (_:Unit)=>
   qU F hT au2 (aA (iu+ 1))) (some (.go ()))
def yP (F:Nat) (a_:List ap):Nat->Int->Option (Way (Int) (Unit))
 | 0,_=>none
 | KQ+ 1,Lj=>
   cond (decide (Lj <(a_.length:Int))) (cT (α:=Unit) ((yA F a_ Lj).bind fun uw=>
   cT (α:=Unit) (yF F uw F 0) fun (_:Unit)=>
   (idx a_ Lj).bind fun hT=>
   cT (α:=Unit) (qU F hT F 0) fun (_:Unit)=>
   some (.go ())) fun (_:Unit)=>
   yP F a_ KQ (aA (Lj+ 1))) (some (.go ()))
def vk (F:Nat) (a_:List ap) (lS:Int) (nQ:List Int) (p_:Int) (As:Int):Nat->Int->Option (Way (Int) (Unit))
 | 0,_=>none
 | acC+ 1,Lt=>
   (idx nQ p_).bind fun aFt=>
   (idx a_ aFt).bind fun aFu=>
   cond (decide (Lt <(aFu.bc.length:Int))) ((idx a_ lS).bind fun aFv=>
   (idx aFv.bc As).bind fun Ig=>
   (idx nQ p_).bind fun aFw=>
   (idx a_ aFw).bind fun aFx=>
   (idx aFx.bc Lt).bind fun Ih=>
   cond (decide (Ig.Name=Ih.Name)) (cond (Ig.Static || Ih.Static) (some (.out 4)) ((sF F Ig.cw Ih.cw).bind fun aAb=>
   cond (!aAb) (some (.out 4)) (cond (!decide ((⟨Ig.Returns.Kind,Ig.Returns.ap⟩:Kind)=(⟨Ih.Returns.Kind,Ih.Returns.ap⟩:Kind))) (some (.out 4)) (vk F a_ lS nQ p_ As acC (aA (Lt+ 1)))))) (vk F a_ lS nQ p_ As acC (aA (Lt+ 1)))) (some (.go ()))
def yJ (F:Nat) (a_:List ap) (lS:Int) (nQ:List Int) (p_:Int):Nat->Int->Option (Way (Int) (Unit))
 | 0,_=>none
 | au6+ 1,As=>
   (idx a_ lS).bind fun aFs=>
   cond (decide (As <(aFs.bc.length:Int))) (cT (α:=Unit) (cT (α:=Unit) (vk F a_ lS nQ p_ As F 0) fun (_:Unit)=>
   some (.go ())) fun (_:Unit)=>
   yJ F a_ lS nQ p_ au6 (aA (As+ 1))) (some (.go ()))
def yI (F:Nat) (a_:List ap) (lS:Int) (nQ:List Int):Nat->Int->Option (Way (Int) (Unit))
 | 0,_=>none
 | au5+ 1,p_=>
   cond (decide (p_ <(aA ((nQ.length:Int) - 1)))) (cT (α:=Unit) (cT (α:=Unit) (yJ F a_ lS nQ p_ F 0) fun (_:Unit)=>
   some (.go ())) fun (_:Unit)=>
   yI F a_ lS nQ au5 (aA (p_+ 1))) (some (.go ()))
def yH (F:Nat) (a_:List ap):Nat->Int->Option (Way (Int) (Unit))
 | 0,_=>none
 | au4+ 1,lS=>
   cond (decide (lS <(a_.length:Int))) (cT (α:=Unit) ((vu F a_ lS).bind fun nQ=>
   cT (α:=Unit) (yI F a_ lS nQ F 0) fun (_:Unit)=>
   some (.go ())) fun (_:Unit)=>
   yH F a_ au4 (aA (lS+ 1))) (some (.go ()))
def Ex (F:Nat) (a_:List ap):Option (Int):=
 (Ew F a_).bind fun ix=>
 cond (!decide (ix= 0)) (some ix) (cd (α:=Unit) (sB F a_ F 0) fun (_:Unit)=>
 (m9 F a_ [79,98,106,101,99,116]).bind fun ay0=>
 cond (decide (ay0 < 0)) (some 5) ((m9 F a_ [69,114,114,111,114]).bind fun ay3=>
 cond (decide (ay3 < 0)) (some 5) (cd (α:=Unit) (yK a_ F 0) fun (_:Unit)=>
 cd (α:=Unit) (vl F a_ F 0) fun (_:Unit)=>
 cd (α:=Unit) (yL F a_ F 0) fun (_:Unit)=>
 (m9 F a_ [69,114,114,111,114]).bind fun aeP=>
 (yA F a_ aeP).bind fun aeQ=>
 (idx a_ aeP).bind fun aEP=>
 cond ((!decide (aEP.cP= [79,98,106,101,99,116])) || (decide ((aeQ.length:Int)= 0))) (some 4) ((idx aeQ 0).bind fun aES=>
 cond (!decide (aES.Kind.Kind= 1)) (some 4) (cd (α:=Unit) (vm F a_ F 0) fun (_:Unit)=>
 cd (α:=Unit) (yP F a_ F 0) fun (_:Unit)=>
 cd (α:=Unit) (yH F a_ F 0) fun (_:Unit)=>
 some 0)))))
def pg (F:Nat) (a_:List ap):Nat->(List (List Target))->(List (List (List UInt8)))->(List (List Field))->(List Int)->Int->Option (Way (aU × Int) ((List (List Target)) × (List (List (List UInt8))) × (List (List Field)) × (List Int)))
 | 0,_,_,_,_,_=>none
 | bL+ 1,z3,z4,z5,z6,rL=>
   cond (decide (rL <(a_.length:Int))) ((yA F a_ rL).bind fun aeJ=>
   (ED F a_ rL).bind fun UX=>
   cond ((decide (12 <(aeJ.length:Int))) || (decide (16 <(UX.1.length:Int)))) (some (.out ((⟨[],[],[],[],[]⟩:aU),2))) ((idx a_ rL).bind fun aDv=>
   (m9 F a_ aDv.cP).bind fun azf=>
   (bK 8 z6 [azf]).bind fun avq=>
   (bK 24 z5 [aeJ]).bind fun avr=>
   (bK 24 z4 [UX.1]).bind fun avs=>
   (bK 24 z3 [UX.2]).bind fun avt=>
   pg F a_ bL avt avs avr avq (aA (rL+ 1)))) (some (.go (z3,z4,z5,z6)))
def Ez (F:Nat) (a_:List ap):Option (aU × Int):=
 (Ex F a_).bind fun ux=>
 cond (!decide (ux= 0)) (some ((⟨[],[],[],[],[]⟩:aU),ux)) (cd (α:=(List (List Target)) × (List (List (List UInt8))) × (List (List Field)) × (List Int)) (pg F a_ F [] [] [] [] 0) fun ((avl,avm,avn,avo):(List (List Target)) × (List (List (List UInt8))) × (List (List Field)) × (List Int))=>
 some ((⟨a_,avo,avn,avm,avl⟩:aU),0))
end J
namespace J
def nD (aP:bj):Nat->(List ((List UInt8) × Int))->Int->Option (Way (Int × bj) (List ((List UInt8) × Int)))
 | 0,_,_=>none
 | bL+ 1,nF,p9=>
   cond (decide (p9 <(aP.l.length:Int))) ((idx aP.l p9).bind fun ajg=>
   cond ((dI nF ajg.Name).isSome) (some (.out (6,(⟨aP.l,nF,aP.dj⟩:bj)))) (nD aP bL (hg nF ajg.Name p9) (aA (p9+ 1)))) (some (.go nF))
def CR (F:Nat) (aP:bj):Option (Int × bj):=
 cd (α:=List ((List UInt8) × Int)) (nD aP F aP.b2 0) fun (K5:List ((List UInt8) × Int))=>
 cond ((!((dI K5 [79,98,106,101,99,116]).isSome)) || (!((dI K5 [69,114,114,111,114]).isSome))) (some (5,(⟨aP.l,K5,aP.dj⟩:bj))) (some (0,(⟨aP.l,K5,aP.dj⟩:bj)))
def ua (aP:bj):Nat->Int->Option (Way (Int × bj) (Unit))
 | 0,_=>none
 | bL+ 1,w3=>
   cond (decide (w3 <(aP.l.length:Int))) ((idx aP.l w3).bind fun aje=>
   cond (!((decide (aje.Name= [79,98,106,101,99,116])) == (decide (aje.cP= [])))) (some (.out (4,(⟨aP.l,aP.b2,aP.dj⟩:bj)))) (ua aP bL (aA (w3+ 1)))) (some (.go ()))
def lP (aP:bj):Nat->(List Int)->Int->Option (Way (Int × bj) (List Int))
 | 0,_,_=>none
 | ew+ 1,rA,rO=>
   cond (decide (rO <(aP.l.length:Int))) (cT (α:=List Int) ((idx aP.l rO).bind fun WW=>
   cT (α:=Int) (cT (α:=Int) (cond (decide (WW.cP= [])) (some (.go (-1))) (cond (!((dI aP.b2 WW.cP).isSome)) (some (.out (5,(⟨aP.l,aP.b2,rA⟩:bj)))) (some (.go ((dI aP.b2 WW.cP).getD 0))))) fun (axm:Int)=>
   some (.go axm)) fun (Ts:Int)=>
   (bK 8 rA [Ts]).bind fun SJ=>
   some (.go SJ)) fun (SI:List Int)=>
   lP aP ew SI (aA (rO+ 1))) (some (.go rA))
def rE (aP:bj) (gV:List Int):Nat->Int->Int->Option (Int)
 | 0,_,_=>none
 | k0+ 1,uj,uk=>
   cond (decide (uk <(aP.l.length:Int))) ((idx gV uj).bind fun Wm=>
   cond (decide (Wm < 0)) (some Wm) (rE aP gV k0 Wm (aA (uk+ 1)))) (some uj)
def pX (F:Nat) (aP:bj) (gV:List Int):Nat->Int->Option (Way (Int × bj) (Unit))
 | 0,_=>none
 | gU+ 1,rK=>
   cond (decide (rK <(aP.l.length:Int))) (cT (α:=Unit) (Option.bind (α:=Int) (Option.bind (α:=Int) (rE aP gV F rK 0) fun (axj:Int)=>
   some axj) fun (axi:Int)=>
   cond (decide (0 <=axi)) (some (.out (4,(⟨aP.l,aP.b2,gV⟩:bj)))) (some (.go ()))) fun (_:Unit)=>
   pX F aP gV gU (aA (rK+ 1))) (some (.go ()))
def K0 (F:Nat) (aP:bj):Option (Int × bj):=
 cd (α:=Unit) (ua aP F 0) fun (_:Unit)=>
 cd (α:=List Int) (lP aP F aP.dj 0) fun (gV:List Int)=>
 cd (α:=Unit) (pX F aP gV F 0) fun (_:Unit)=>
 some (0,(⟨aP.l,aP.b2,gV⟩:bj))
def pZ (aP:bj):Nat->(List Int)->Int->Option (List Int)
 | 0,_,_=>none
 | bL+ 1,oC,lQ=>
   cond (decide (0 <=lQ)) ((bK 8 oC [lQ]).bind fun F_=>
   (idx aP.dj lQ).bind fun nX=>
   pZ aP bL F_ nX) (some oC)
def pY (F:Nat) (aP:bj) (dh:Int):Option (List Int):=
 Option.bind (α:=List Int) (pZ aP F [] dh) fun (tN:List Int)=>
 some tN
def Hh (_:List Int):Option Unit:=some ()
def wD (aP:bj):List Int->(List Field)->Option (List Field)
 | [],kp=>some kp
 | xT::Ma,kp=>
   (idx aP.l xT).bind fun yd=>
   (bK 40 kp yd.Fields).bind fun KX=>
   wD aP Ma KX
def rF (F:Nat) (aP:bj) (dh:Int):Option (List Field):=
 (pY F (⟨aP.l,aP.b2,aP.dj⟩:bj) dh).bind fun uy=>
 (Hh uy).bind fun UW=>
 Option.bind (α:=List Field) (wD aP uy.reverse []) fun (kp:List Field)=>
 some kp
def K1 (F:Nat) (aP:bj):Option (Int):=
 (rF F (⟨aP.l,aP.b2,aP.dj⟩:bj) ((dI aP.b2 [69,114,114,111,114]).getD 0)).bind fun fz=>
 (idx aP.l ((dI aP.b2 [69,114,114,111,114]).getD 0)).bind fun aDg=>
 cond ((!decide (aDg.cP= [79,98,106,101,99,116])) || (decide ((fz.length:Int)= 0))) (some 4) ((idx fz 0).bind fun aDR=>
 cond (!decide (aDR.Kind.Kind= 1)) (some 4) (some 0))
def Ag (aS:Kind) (ez:List (List UInt8)):Option (List (List UInt8)):=
 cond (!decide (aS.ap= [])) ((bK 16 ez [aS.ap]).bind fun awr=>
 some awr) (some ez)
def ud (gp:ap):Nat->(List (List UInt8))->Int->Option (List (List UInt8))
 | 0,_,_=>none
 | ew+ 1,z',wX=>
   cond (decide (wX <(gp.Fields.length:Int))) ((idx gp.Fields wX).bind fun ain=>
   (Ag (⟨ain.Kind.Kind,ain.Kind.ap⟩:Kind) z').bind fun az0=>
   ud gp ew az0 (aA (wX+ 1))) (some z')
def uf (fU:Method):Nat->(List (List UInt8))->Int->Option (List (List UInt8))
 | 0,_,_=>none
 | k0+ 1,Aa,wY=>
   cond (decide (wY <(fU.cw.length:Int))) ((idx fU.cw wY).bind fun aio=>
   (Ag (⟨aio.Kind,aio.ap⟩:Kind) Aa).bind fun az3=>
   uf fU k0 az3 (aA (wY+ 1))) (some Aa)
def p3 (fU:Method):Nat->(List (List UInt8))->Int->Option (List (List UInt8))
 | 0,_,_=>none
 | rv+ 1,tS,rT=>
   cond (decide (rT <(fU.cz.length:Int))) ((idx fU.cz rT).bind fun aE4=>
   (bK 16 tS [aE4.ap]).bind fun av3=>
   p3 fU rv av3 (aA (rT+ 1))) (some tS)
def p2 (F:Nat) (gp:ap):Nat->(List (List UInt8))->Int->Option (List (List UInt8))
 | 0,_,_=>none
 | gU+ 1,tR,rR=>
   cond (decide (rR <(gp.bc.length:Int))) (Option.bind (α:=List (List UInt8)) ((idx gp.bc rR).bind fun fU=>
   Option.bind (α:=List (List UInt8)) (uf fU F tR 0) fun (av1:List (List UInt8))=>
   (Ag (⟨fU.Returns.Kind,fU.Returns.ap⟩:Kind) av1).bind fun az4=>
   Option.bind (α:=List (List UInt8)) (p3 fU F az4 0) fun (av2:List (List UInt8))=>
   some av2) fun (av0:List (List UInt8))=>
   p2 F gp gU av0 (aA (rR+ 1))) (some tR)
def uc (F:Nat) (aP:bj):Nat->(List (List UInt8))->Int->Option (List (List UInt8))
 | 0,_,_=>none
 | bL+ 1,z_,wV=>
   cond (decide (wV <(aP.l.length:Int))) (Option.bind (α:=List (List UInt8)) ((idx aP.l wV).bind fun gp=>
   Option.bind (α:=List (List UInt8)) (ud gp F z_ 0) fun (avY:List (List UInt8))=>
   Option.bind (α:=List (List UInt8)) (p2 F gp F avY 0) fun (avZ:List (List UInt8))=>
   some avZ) fun (avX:List (List UInt8))=>
   uc F aP bL avX (aA (wV+ 1))) (some z_)
def wK (aP:bj) (oF:List (List UInt8)):Nat->Int->Option (Way (Int) (Unit))
 | 0,_=>none
 | ww+ 1,wZ=>
   cond (decide (wZ <(oF.length:Int))) ((idx oF wZ).bind fun aE5=>
   cond (!((dI aP.b2 aE5).isSome)) (some (.out 5)) (wK aP oF ww (aA (wZ+ 1)))) (some (.go ()))
def Gh (F:Nat) (aP:bj):Option (Int):=
 Option.bind (α:=List (List UInt8)) (uc F aP F [] 0) fun (oF:List (List UInt8))=>
 cd (α:=Unit) (wK aP oF F 0) fun (_:Unit)=>
 some 0
def wL (a_:List (List UInt8)):Nat->(List ((List UInt8) × Bool))->Int->Option (List ((List UInt8) × Bool))
 | 0,_,_=>none
 | bL+ 1,Ah,wS=>
   cond (decide (wS <(a_.length:Int))) ((idx a_ wS).bind fun aER=>
   wL a_ bL (hg Ah aER true) (aA (wS+ 1))) (some Ah)
def CT (F:Nat) (a_:List (List UInt8)):Option (Bool):=
 Option.bind (α:=List ((List UInt8) × Bool)) (wL a_ F [] 0) fun (awR:List ((List UInt8) × Bool))=>
 some (decide ((awR.length:Int) <(a_.length:Int)))
def ub (nO:List Field):Nat->(List (List UInt8))->Int->Option (List (List UInt8))
 | 0,_,_=>none
 | ew+ 1,z9,wU=>
   cond (decide (wU <(nO.length:Int))) ((idx nO wU).bind fun aEO=>
   (bK 16 z9 [aEO.Name]).bind fun avR=>
   ub nO ew avR (aA (wU+ 1))) (some z9)
def p1 (l6:ap):Nat->(List (List UInt8))->Int->Option (List (List UInt8))
 | 0,_,_=>none
 | gU+ 1,tQ,rQ=>
   cond (decide (rQ <(l6.bc.length:Int))) ((idx l6.bc rQ).bind fun aEU=>
   (bK 16 tQ [aEU.Name]).bind fun avT=>
   p1 l6 gU avT (aA (rQ+ 1))) (some tQ)
def wH (F:Nat) (aP:bj):Nat->Int->Option (Way (Int) (Unit))
 | 0,_=>none
 | bL+ 1,um=>
   cond (decide (um <(aP.l.length:Int))) (cT (α:=Unit) ((idx aP.l um).bind fun l6=>
   (rF F (⟨aP.l,aP.b2,aP.dj⟩:bj) um).bind fun nO=>
   Option.bind (α:=List (List UInt8)) (ub nO F [] 0) fun (avQ:List (List UInt8))=>
   Option.bind (α:=List (List UInt8)) (p1 l6 F [] 0) fun (avS:List (List UInt8))=>
   (CT F avQ).bind fun azU=>
   cond (azU) (some (.out 6)) ((CT F avS).bind fun azV=>
   cond (azV) (some (.out 6)) (some (.go ())))) fun (_:Unit)=>
   wH F aP bL (aA (um+ 1))) (some (.go ()))
def Gg (F:Nat) (aP:bj):Option (Int):=
 cd (α:=Unit) (wH F aP F 0) fun (_:Unit)=>
 some 0
def AI (bQ:List Kind) (b_:List Kind):Nat->Int->Option (Way (Bool) (Unit))
 | 0,_=>none
 | bL+ 1,cV=>
   cond (decide (cV <(bQ.length:Int))) ((idx bQ cV).bind fun l7=>
   (idx b_ cV).bind fun l8=>
   cond (!decide (l7=l8)) (some (.out false)) (AI bQ b_ bL (aA (cV+ 1)))) (some (.go ()))
def Ho (F:Nat) (bQ:List Kind) (b_:List Kind):Option (Bool):=
 cond (!decide ((bQ.length:Int)=(b_.length:Int))) (some false) (cd (α:=Unit) (AI bQ b_ F 0) fun (_:Unit)=>
 some true)
def KZ (F:Nat) (b9:Method) (cx:Method):Option (Bool):=
 cond ((!b9.Static) && (!cx.Static)) ((Ho F b9.cw cx.cw).bind fun hn=>
 cond (hn) (some (decide ((⟨b9.Returns.Kind,b9.Returns.ap⟩:Kind)=(⟨cx.Returns.Kind,cx.Returns.ap⟩:Kind)))) (some false)) (some false)
def p0 (F:Nat) (iK:Method) (ld:ap):Nat->Int->Option (Way (Int) (Unit))
 | 0,_=>none
 | k0+ 1,p7=>
   cond (decide (p7 <(ld.bc.length:Int))) ((idx ld.bc p7).bind fun si=>
   cond (decide (iK.Name=si.Name)) ((KZ F (⟨iK.Name,iK.Static,iK.cw,(⟨iK.Returns.Kind,iK.Returns.ap⟩:Kind),iK.g8,iK.g5,iK.Code,iK.cz⟩:Method) (⟨si.Name,si.Static,si.cw,(⟨si.Returns.Kind,si.Returns.ap⟩:Kind),si.g8,si.g5,si.Code,si.cz⟩:Method)).bind fun azs=>
   cond (!azs) (some (.out 4)) (p0 F iK ld k0 (aA (p7+ 1)))) (p0 F iK ld k0 (aA (p7+ 1)))) (some (.go ()))
def wG (F:Nat) (aP:bj) (hR:ap) (uU:Int):Nat->Int->Option (Way (Int) (Unit))
 | 0,_=>none
 | gU+ 1,wQ=>
   cond (decide (wQ <(hR.bc.length:Int))) (cT (α:=Unit) ((idx hR.bc wQ).bind fun iK=>
   (idx aP.l uU).bind fun ld=>
   cT (α:=Unit) (p0 F iK ld F 0) fun (_:Unit)=>
   some (.go ())) fun (_:Unit)=>
   wG F aP hR uU gU (aA (wQ+ 1))) (some (.go ()))
def wF (F:Nat) (aP:bj) (hR:ap) (oE:List Int):Nat->Int->Option (Way (Int) (Unit))
 | 0,_=>none
 | ew+ 1,wP=>
   cond (decide (wP <(oE.length:Int))) (cT (α:=Unit) ((idx oE wP).bind fun uU=>
   cT (α:=Unit) (wG F aP hR uU F 0) fun (_:Unit)=>
   some (.go ())) fun (_:Unit)=>
   wF F aP hR oE ew (aA (wP+ 1))) (some (.go ()))
def wE (F:Nat) (aP:bj):Nat->Int->Option (Way (Int) (Unit))
 | 0,_=>none
 | bL+ 1,ui=>
   cond (decide (ui <(aP.l.length:Int))) (cT (α:=Unit) ((idx aP.l ui).bind fun hR=>
   (pY F (⟨aP.l,aP.b2,aP.dj⟩:bj) ui).bind fun U3=>
   (cut U3 1 (U3.length:Int)).bind fun oE=>
   cT (α:=Unit) (wF F aP hR oE F 0) fun (_:Unit)=>
   some (.go ())) fun (_:Unit)=>
   wE F aP bL (aA (ui+ 1))) (some (.go ()))
def Gf (F:Nat) (aP:bj):Option (Int):=
 cd (α:=Unit) (wE F aP F 0) fun (_:Unit)=>
 some 0
end J
namespace J
def VA (s_:List Field):Option (List Field):=
 (bK 40 ([]:List Field) s_).bind fun tP=>
 some tP
def VD (s_:List Method):Option (List Method):=
 (bK 128 ([]:List Method) s_).bind fun tP=>
 some tP
def VC (s_:List Kind):Option (List Kind):=
 (bK 24 ([]:List Kind) s_).bind fun tP=>
 some tP
def VB (s_:List Handler):Option (List Handler):=
 (bK 40 ([]:List Handler) s_).bind fun tP=>
 some tP
def rG:Nat->(List Method)->Int->Int->Option (List Method)
 | 0,_,_,_=>none
 | ew+ 1,KV,adI,Aq=>
   cond (decide (Aq <adI)) ((idx KV Aq).bind fun aiU=>
   (VC aiU.cw).bind fun az8=>
   (VB aiU.cz).bind fun az9=>
   (idx KV Aq).bind fun yb=>
   (some (KV.set (Aq).toNat (⟨yb.Name,yb.Static,az8,(⟨yb.Returns.Kind,yb.Returns.ap⟩:Kind),yb.g8,yb.g5,yb.Code,yb.cz⟩:Method))).bind fun ac6=>
   (idx ac6 Aq).bind fun yc=>
   (some (ac6.set (Aq).toNat (⟨yc.Name,yc.Static,yc.cw,(⟨yc.Returns.Kind,yc.Returns.ap⟩:Kind),yc.g8,yc.g5,yc.Code,az9⟩:Method))).bind fun awf=>
   rG ew awf adI (aA (Aq+ 1))) (some KV)
def p4 (F:Nat) (a_:List ap):Nat->(List ap)->Int->Option (List ap)
 | 0,_,_=>none
 | bL+ 1,Ab,w2=>
   cond (decide (w2 <(a_.length:Int))) (Option.bind (α:=List ap) ((idx a_ w2).bind fun Ns=>
   (VA Ns.Fields).bind fun az6=>
   (VD Ns.bc).bind fun aeU=>
   Option.bind (α:=List Method) (rG F aeU (aeU.length:Int) 0) fun (awe:List Method)=>
   (bK 80 Ab [(⟨Ns.Name,Ns.cP,az6,awe⟩:ap)]).bind fun awg=>
   some awg) fun (awd:List ap)=>
   p4 F a_ bL awd (aA (w2+ 1))) (some Ab)
def Gi (F:Nat) (a_:List ap):Option (List ap):=
 Option.bind (α:=List ap) (p4 F a_ F [] 0) fun (avW:List ap)=>
 some avW
def xx (s_:List (List UInt8)) (aG:List UInt8):Nat->Int->Option (Way (Int) (Unit))
 | 0,_=>none
 | bL+ 1,hh=>
   cond (decide (hh <(s_.length:Int))) ((idx s_ hh).bind fun Bf=>
   cond (decide (aG=Bf)) (some (.out hh)) (xx s_ aG bL (aA (hh+ 1)))) (some (.go ()))
def Hs (F:Nat) (s_:List (List UInt8)) (aG:List UInt8):Option (Int):=
 cd (α:=Unit) (xx s_ aG F 0) fun (_:Unit)=>
 some (-1)
def wJ (F:Nat) (eQ:Int) (ft:ap):Nat->(List (List UInt8))->(List Target)->Int->Option ((List (List UInt8)) × (List Target))
 | 0,_,_,_=>none
 | ew+ 1,jx,lN,eN=>
   cond (decide (eN <(ft.bc.length:Int))) (Option.bind (α:=(List (List UInt8)) × (List Target)) ((idx ft.bc eN).bind fun fu=>
   (Hs F jx fu.Name).bind fun AF=>
   cond (decide (0 <=AF)) ((idx lN AF).bind fun Xg=>
   (some (lN.set (AF).toNat (⟨eQ,eN⟩:Target))).bind fun SN=>
   some (jx,SN)) ((bK 16 jx [fu.Name]).bind fun KW=>
   (bK 16 lN [(⟨eQ,eN⟩:Target)]).bind fun rB=>
   some (KW,rB))) fun ((tX,tY):(List (List UInt8)) × (List Target))=>
   wJ F eQ ft ew tX tY (aA (eN+ 1))) (some (jx,lN))
def wI (F:Nat) (aP:bj):List Int->(List (List UInt8))->(List Target)->Option ((List (List UInt8)) × (List Target))
 | [],kq,kr=>some (kq,kr)
 | eQ::Mb,kq,kr=>
   Option.bind (α:=(List (List UInt8)) × (List Target)) ((idx aP.l eQ).bind fun ft=>
   Option.bind (α:=(List (List UInt8)) × (List Target)) (wJ F eQ ft F kq kr 0) fun ((tV,tW):(List (List UInt8)) × (List Target))=>
   some (tV,tW)) fun ((tT,tU):(List (List UInt8)) × (List Target))=>
   wI F aP Mb tT tU
def Af (F:Nat) (aP:bj) (dh:Int):Option ((List (List UInt8)) × (List Target)):=
 (pY F (⟨aP.l,aP.b2,aP.dj⟩:bj) dh).bind fun iw=>
 (Hh iw).bind fun ho=>
 Option.bind (α:=(List (List UInt8)) × (List Target)) (wI F aP iw.reverse [] []) fun ((kq,kr):(List (List UInt8)) × (List Target))=>
 some (kq,kr)
def mJ (F:Nat) (fz:List ap) (ho:Int × bj) (hp:Int × bj):Nat->(List (List Target))->(List (List (List UInt8)))->(List (List Field))->Int->Option (Way (aU × Int) ((List (List Target)) × (List (List (List UInt8))) × (List (List Field))))
 | 0,_,_,_,_=>none
 | bL+ 1,tK,tL,tM,oL=>
   cond (decide (oL <(fz.length:Int))) ((Af F (⟨fz,ho.2.b2,hp.2.dj⟩:bj) oL).bind fun UU=>
   (rF F (⟨fz,ho.2.b2,hp.2.dj⟩:bj) oL).bind fun ay1=>
   (bK 24 tM [ay1]).bind fun acS=>
   (bK 24 tL [UU.1]).bind fun avd=>
   (bK 24 tK [UU.2]).bind fun ave=>
   (idx acS oL).bind fun aDb=>
   cond ((decide (12 <(aDb.length:Int))) || (decide (16 <(UU.1.length:Int)))) (some (.out ((⟨[],[],[],[],[]⟩:aU),2))) (mJ F fz ho hp bL ave avd acS (aA (oL+ 1)))) (some (.go (tK,tL,tM)))
def Ad (F:Nat) (a_:List ap):Option (aU × Int):=
 (F4 F a_).bind fun ux=>
 cond (!decide (ux= 0)) (some ((⟨[],[],[],[],[]⟩:aU),ux)) ((Gi F a_).bind fun fz=>
 (CR F (⟨fz,[],[]⟩:bj)).bind fun ho=>
 cond (!decide (ho.1 = 0)) (some ((⟨[],[],[],[],[]⟩:aU),ho.1)) ((K0 F (⟨fz,ho.2.b2,[]⟩:bj)).bind fun hp=>
 cond (!decide (hp.1 = 0)) (some ((⟨[],[],[],[],[]⟩:aU),hp.1)) ((K1 F (⟨fz,ho.2.b2,hp.2.dj⟩:bj)).bind fun Dg=>
 cond (!decide (Dg= 0)) (some ((⟨[],[],[],[],[]⟩:aU),Dg)) ((Gh F (⟨fz,ho.2.b2,hp.2.dj⟩:bj)).bind fun mO=>
 cond (!decide (mO= 0)) (some ((⟨[],[],[],[],[]⟩:aU),mO)) ((Gg F (⟨fz,ho.2.b2,hp.2.dj⟩:bj)).bind fun ei=>
 cond (!decide (ei= 0)) (some ((⟨[],[],[],[],[]⟩:aU),ei)) ((Gf F (⟨fz,ho.2.b2,hp.2.dj⟩:bj)).bind fun aeL=>
 cond (!decide (aeL= 0)) (some ((⟨[],[],[],[],[]⟩:aU),aeL)) (cd (α:=(List (List Target)) × (List (List (List UInt8))) × (List (List Field))) (mJ F fz ho hp F [] [] [] 0) fun ((SQ,SR,SS):(List (List Target)) × (List (List (List UInt8))) × (List (List Field)))=>
 some ((⟨fz,hp.2.dj,SS,SR,SQ⟩:aU),0))))))))
def xr (bQ:List Int) (b_:List Int):Nat->Int->Option (Way (Bool) (Unit))
 | 0,_=>none
 | bL+ 1,cV=>
   cond (decide (cV <(bQ.length:Int))) ((idx bQ cV).bind fun l7=>
   (idx b_ cV).bind fun l8=>
   cond (!decide (l7=l8)) (some (.out false)) (xr bQ b_ bL (aA (cV+ 1)))) (some (.go ()))
def Hq (F:Nat) (bQ:List Int) (b_:List Int):Option (Bool):=
 cond (!decide ((bQ.length:Int)=(b_.length:Int))) (some false) (cd (α:=Unit) (xr bQ b_ F 0) fun (_:Unit)=>
 some true)
def xp (bQ:List Field) (b_:List Field):Nat->Int->Option (Way (Bool) (Unit))
 | 0,_=>none
 | bL+ 1,cV=>
   cond (decide (cV <(bQ.length:Int))) ((idx bQ cV).bind fun l7=>
   (idx b_ cV).bind fun l8=>
   cond (!decide (l7=l8)) (some (.out false)) (xp bQ b_ bL (aA (cV+ 1)))) (some (.go ()))
def Hn (F:Nat) (bQ:List Field) (b_:List Field):Option (Bool):=
 cond (!decide ((bQ.length:Int)=(b_.length:Int))) (some false) (cd (α:=Unit) (xp bQ b_ F 0) fun (_:Unit)=>
 some true)
def xm (F:Nat) (bQ:List (List Field)) (b_:List (List Field)):Nat->Int->Option (Way (Bool) (Unit))
 | 0,_=>none
 | bL+ 1,gb=>
   cond (decide (gb <(bQ.length:Int))) ((idx bQ gb).bind fun HK=>
   (idx b_ gb).bind fun AY=>
   (Hn F HK AY).bind fun GR=>
   cond (!GR) (some (.out false)) (xm F bQ b_ bL (aA (gb+ 1)))) (some (.go ()))
def Hk (F:Nat) (bQ:List (List Field)) (b_:List (List Field)):Option (Bool):=
 cond (!decide ((bQ.length:Int)=(b_.length:Int))) (some false) (cd (α:=Unit) (xm F bQ b_ F 0) fun (_:Unit)=>
 some true)
def xt (bQ:List (List UInt8)) (b_:List (List UInt8)):Nat->Int->Option (Way (Bool) (Unit))
 | 0,_=>none
 | bL+ 1,cV=>
   cond (decide (cV <(bQ.length:Int))) ((idx bQ cV).bind fun l7=>
   (idx b_ cV).bind fun l8=>
   cond (!decide (l7=l8)) (some (.out false)) (xt bQ b_ bL (aA (cV+ 1)))) (some (.go ()))
def Hr (F:Nat) (bQ:List (List UInt8)) (b_:List (List UInt8)):Option (Bool):=
 cond (!decide ((bQ.length:Int)=(b_.length:Int))) (some false) (cd (α:=Unit) (xt bQ b_ F 0) fun (_:Unit)=>
 some true)
def xo (F:Nat) (bQ:List (List (List UInt8))) (b_:List (List (List UInt8))):Nat->Int->Option (Way (Bool) (Unit))
 | 0,_=>none
 | bL+ 1,gb=>
   cond (decide (gb <(bQ.length:Int))) ((idx bQ gb).bind fun HK=>
   (idx b_ gb).bind fun AY=>
   (Hr F HK AY).bind fun GR=>
   cond (!GR) (some (.out false)) (xo F bQ b_ bL (aA (gb+ 1)))) (some (.go ()))
def Hm (F:Nat) (bQ:List (List (List UInt8))) (b_:List (List (List UInt8))):Option (Bool):=
 cond (!decide ((bQ.length:Int)=(b_.length:Int))) (some false) (cd (α:=Unit) (xo F bQ b_ F 0) fun (_:Unit)=>
 some true)
def xq (bQ:List Target) (b_:List Target):Nat->Int->Option (Way (Bool) (Unit))
 | 0,_=>none
 | bL+ 1,cV=>
   cond (decide (cV <(bQ.length:Int))) ((idx bQ cV).bind fun l7=>
   (idx b_ cV).bind fun l8=>
   cond (!decide (l7=l8)) (some (.out false)) (xq bQ b_ bL (aA (cV+ 1)))) (some (.go ()))
def Hp (F:Nat) (bQ:List Target) (b_:List Target):Option (Bool):=
 cond (!decide ((bQ.length:Int)=(b_.length:Int))) (some false) (cd (α:=Unit) (xq bQ b_ F 0) fun (_:Unit)=>
 some true)
def xn (F:Nat) (bQ:List (List Target)) (b_:List (List Target)):Nat->Int->Option (Way (Bool) (Unit))
 | 0,_=>none
 | bL+ 1,gb=>
   cond (decide (gb <(bQ.length:Int))) ((idx bQ gb).bind fun HK=>
   (idx b_ gb).bind fun AY=>
   (Hp F HK AY).bind fun GR=>
   cond (!GR) (some (.out false)) (xn F bQ b_ bL (aA (gb+ 1)))) (some (.go ()))
def Hl (F:Nat) (bQ:List (List Target)) (b_:List (List Target)):Option (Bool):=
 cond (!decide ((bQ.length:Int)=(b_.length:Int))) (some false) (cd (α:=Unit) (xn F bQ b_ F 0) fun (_:Unit)=>
 some true)
def CS (F:Nat) (b9:aU) (cx:aU):Option (Bool):=
 (Hq F b9.a8 cx.a8).bind fun U4=>
 cond (U4) ((Hk F b9.Fields cx.Fields).bind fun GV=>
 cond (GV) ((Hm F b9.Names cx.Names).bind fun GX=>
 cond (GX) ((Hl F b9.a9 cx.a9).bind fun U6=>
 some U6) (some false)) (some false)) (some false)
def nC (F:Nat) (aS:aU):Option (Int):=
 (Ad F aS.ba).bind fun hn=>
 cond (!decide (hn.2 = 0)) (some 4) ((CS F (⟨aS.ba,aS.a8,aS.Fields,aS.Names,aS.a9⟩:aU) (⟨hn.1.ba,hn.1.a8,hn.1.Fields,hn.1.Names,hn.1.a9⟩:aU)).bind fun azB=>
 cond (!azB) (some 4) (some 0))
def X':Option (List ap):=
 some [(⟨[79,98,106,101,99,116],[],[],[(⟨[109,97,105,110],true,[],(⟨0,[]⟩:Kind),2,0,[1,0,7,31,27],[]⟩:Method)]⟩:ap),(⟨[69,114,114,111,114],[79,98,106,101,99,116],[(⟨[99,111,100,101],(⟨1,[]⟩:Kind)⟩:Field)],[]⟩:ap)]
end J
namespace J
def sC (F:Nat) (aS:aU):Option (Int):=
 (Ez F aS.ba).bind fun hn=>
 cond (!decide (hn.2 = 0)) (some 4) ((BN F (⟨aS.ba,aS.a8,aS.Fields,aS.Names,aS.a9⟩:aU) (⟨hn.1.ba,hn.1.a8,hn.1.Fields,hn.1.Names,hn.1.a9⟩:aU)).bind fun ei=>
 cond (!ei) (some 4) (some 0))
end J
namespace J
def np (dh:Int) (Gd:Int) (Gp:Int):Option (Bool):=
 some ((decide (Gd<=dh)) && (decide (dh<=Gp)))
def abK (NQ:Int) (Az:Int):Option (aY × Int):=
 (np NQ 3 2000).bind fun U5=>
 cond (!U5) (some ((⟨[],0,0,0,0,[],0⟩:aY),3)) ((np Az 3 2000).bind fun U9=>
 cond (!U9) (some ((⟨[],0,0,0,0,[],0⟩:aY),3)) ((Gn (0 :Int) 8 (aA ((aA (1 +NQ))+Az))).bind fun awm=>
 some ((⟨awm,NQ,Az,1,aA (NQ+ 1),[],1⟩:aY),0)))
def tg (s_:b') (gj:Int):Option (Bool):=
 cond ((decide (gj= 1)) || (decide (gj= 2))) (some true) ((np gj 3 (aA ((aA (3 +(s_.K.ba.length:Int))) - 1))).bind fun AC=>
 some AC)
def th (s_:b') (gj:Int) (dh:Int):Option (Bool):=
 (np dh 0 500).bind fun hn=>
 cond (hn) (cond (decide (gj < 3)) (some true) ((idx s_.K.Fields (aA (gj - 3))).bind fun Wl=>
 some (decide (dh=(Wl.length:Int))))) (some false)
def tj (s_:b') (gj:Int) (dh:Int):Option (Bool):=
 cond (decide (gj= 2)) (some true) (cond (decide (3 <=gj)) ((idx s_.K.Fields (aA (gj - 3))).bind fun Wh=>
 (idx Wh dh).bind fun WA=>
 some (!decide (WA.Kind.Kind= 1))) (some false))
def Rt (s_:b') (gj:Int) (pW:Int):Option (Int):=
 (tg (⟨(⟨s_.K.ba,s_.K.a8,s_.K.Fields,s_.K.Names,s_.K.a9⟩:aU)⟩:b') gj).bind fun hn=>
 cond (!hn) (some 7) ((th (⟨(⟨s_.K.ba,s_.K.a8,s_.K.Fields,s_.K.Names,s_.K.a9⟩:aU)⟩:b') gj pW).bind fun ho=>
 cond (!ho) (some 3) (some 0))
def Cw (aB:aY):Option (Int):=
 (np aB.aL 3 2000).bind fun AE=>
 cond (!AE) (some 3) ((np aB.aW 3 2000).bind fun uy=>
 cond (!uy) (some 3) (cond (!decide ((aB.Words.length:Int)=(aA ((aA (1 +aB.aL))+aB.aW)))) (some 1) ((np aB.a5 1 (aA (aB.aL+ 1))).bind fun AC=>
 cond (!AC) (some 3) ((np aB.a2 (aA (aB.aL+ 1)) (aA ((aA (aB.aL+aB.aW))+ 1))).bind fun azc=>
 cond ((!azc) || (decide (aB.Next < 1))) (some 3) (some 0)))))
def Cs (aG:bd) (at_:Int):Option (Bool):=
 some ((decide (0 <at_)) && (decide (at_<=aG.H.aL)))
def Cr (aG:bd) (at_:Int):Option (Bool):=
 some ((dI aG.dE at_).getD false)
def nn (jg:Int) (aG:bd):Nat->(List Int)->(List (Int × Bool))->Int->Option (Way ((List Int) × Bool × bd) ((List Int) × (List (Int × Bool))))
 | 0,_,_,_=>none
 | bL+ 1,tO,oI,lR=>
   cond (decide (lR <jg)) (cond (decide (jg <(aA (lR+ 3)))) (some (.out ([],false,(⟨(⟨aG.H.Words,aG.H.aL,aG.H.aW,aG.H.a5,aG.H.a2,aG.H.aZ,aG.H.Next⟩:aY),(⟨(⟨aG.S.K.ba,aG.S.K.a8,aG.S.K.Fields,aG.S.K.Names,aG.S.K.a9⟩:aU)⟩:b'),aG.aL,aG.aW,oI⟩:bd)))) ((idx aG.H.Words lR).bind fun ag_=>
   (idx aG.H.Words (aA (lR+ 1))).bind fun WD=>
   (tg (⟨(⟨aG.S.K.ba,aG.S.K.a8,aG.S.K.Fields,aG.S.K.Names,aG.S.K.a9⟩:aU)⟩:b') ag_).bind fun azz=>
   cond (!azz) (some (.out ([],false,(⟨(⟨aG.H.Words,aG.H.aL,aG.H.aW,aG.H.a5,aG.H.a2,aG.H.aZ,aG.H.Next⟩:aY),(⟨(⟨aG.S.K.ba,aG.S.K.a8,aG.S.K.Fields,aG.S.K.Names,aG.S.K.a9⟩:aU)⟩:b'),aG.aL,aG.aW,oI⟩:bd)))) ((th (⟨(⟨aG.S.K.ba,aG.S.K.a8,aG.S.K.Fields,aG.S.K.Names,aG.S.K.a9⟩:aU)⟩:b') ag_ WD).bind fun azA=>
   cond ((!azA) || (decide (jg <(aA ((aA (lR+ 3))+WD))))) (some (.out ([],false,(⟨(⟨aG.H.Words,aG.H.aL,aG.H.aW,aG.H.a5,aG.H.a2,aG.H.aZ,aG.H.Next⟩:aY),(⟨(⟨aG.S.K.ba,aG.S.K.a8,aG.S.K.Fields,aG.S.K.Names,aG.S.K.a9⟩:aU)⟩:b'),aG.aL,aG.aW,oI⟩:bd)))) ((bK 8 tO [lR]).bind fun avF=>
   nn jg aG bL avF (hg oI lR true) (aA (lR+(aA (3 +WD)))))))) (some (.go (tO,oI)))
def lG (F:Nat) (aG:bd) (from_:Int) (jg:Int):Option ((List Int) × Bool × bd):=
 cd (α:=(List Int) × (List (Int × Bool))) (nn jg aG F [] aG.dE from_) fun ((avy,awQ):(List Int) × (List (Int × Bool)))=>
 some (avy,true,(⟨(⟨aG.H.Words,aG.H.aL,aG.H.aW,aG.H.a5,aG.H.a2,aG.H.aZ,aG.H.Next⟩:aY),(⟨(⟨aG.S.K.ba,aG.S.K.a8,aG.S.K.Fields,aG.S.K.Names,aG.S.K.a9⟩:aU)⟩:b'),aG.aL,aG.aW,awQ⟩:bd))
def tl (at_:Int) (aG:bd) (M':Int):Nat->(List Int)->Int->Option (List Int)
 | 0,_,_=>none
 | bL+ 1,SF,Lk=>
   cond (decide (Lk <M')) (Option.bind (α:=List Int) ((idx aG.H.Words at_).bind fun aEv=>
   (tj (⟨(⟨aG.S.K.ba,aG.S.K.a8,aG.S.K.Fields,aG.S.K.Names,aG.S.K.a9⟩:aU)⟩:b') aEv Lk).bind fun azM=>
   cond (azM) ((bK 8 SF [aA ((aA (at_+ 3))+Lk)]).bind fun avM=>
   some avM) (some SF)) fun (avK:List Int)=>
   tl at_ aG M' bL avK (aA (Lk+ 1))) (some SF)
def ou (F:Nat) (aG:bd) (at_:Int):Option (List Int):=
 (idx aG.H.Words (aA (at_+ 1))).bind fun M'=>
 Option.bind (α:=List Int) (tl at_ aG M' F [] 0) fun (avE:List Int)=>
 some avE
def Mr (dh:Int):Option (List Int):=
 Option.bind (α:=Unit) (cond (decide (dh < 0)) ((none:Option (Unit))) (some ())) fun (_:Unit)=>
 cond (decide (0 <(aA (dh - 0)))) ((EH (0 :Int) 8 (aA (dh - 0))).bind fun aHe=>
 some ([]:List Int)) (some [])
def uB (g0:List (List Int)):Nat->Int->Int->Option (Int)
 | 0,_,_=>none
 | bL+ 1,wN,wO=>
   cond (decide (wO <(g0.length:Int))) (Option.bind (α:=Int) ((idx g0 wO).bind fun agU=>
   cond (decide ((aA (wN+(agU.length:Int))) < 0)) ((none:Option (Int))) (some (aA (wN+(agU.length:Int))))) fun (axd:Int)=>
   uB g0 bL axd (aA (wO+ 1))) (some wN)
def uC (g0:List (List Int)):Nat->(List Int)->Int->Option (List Int)
 | 0,_,_=>none
 | ew+ 1,z7,wR=>
   cond (decide (wR <(g0.length:Int))) ((idx g0 wR).bind fun aDV=>
   (bK 8 z7 aDV).bind fun avA=>
   uC g0 ew avA (aA (wR+ 1))) (some z7)
def Du (F:Nat) (g0:List (List Int)):Option (List Int):=
 Option.bind (α:=Int) (uB g0 F 0 0) fun (axn:Int)=>
 (Mr axn).bind fun ay'=>
 Option.bind (α:=List Int) (uC g0 F ay' 0) fun (avx:List Int)=>
 some avx
def v' (F:Nat) (aG:bd):Option (List Int):=
 (Du F [aG.aL,aG.aW]).bind fun gZ=>
 some gZ
def Jp (aP:Int):Option (Bool):=
 some (!decide (aP=aP))
def Jo (aP:Int) (Xx:Int):Option (Bool):=
 (Jp aP).bind fun azo=>
 cond (azo) ((Jp Xx).bind fun ux=>
 some ((!ux) || (decide (aP <Xx)))) (some (decide (aP <Xx)))
def Mv (aP:Int):Option (Bool):=
 some (!decide (aP=aP))
def r6 (qo:Int) (aP:List Int):Nat->Int->Int->Option (Int)
 | 0,_,_=>none
 | bL+ 1,p',rU=>
   cond (decide (p' <rU)) (Option.bind (α:=Int × Int) ((idx aP (aA (uA (DF (aA (p'+rU))) 1))).bind fun Wg=>
   (Jo Wg qo).bind fun ay7=>
   cond (ay7) (some (aA ((aA (uA (DF (aA (p'+rU))) 1))+ 1),rU)) (some (p',aA (uA (DF (aA (p'+rU))) 1)))) fun ((axb,axc):Int × Int)=>
   r6 qo aP bL axb axc) (some p')
def Hj (F:Nat) (aP:List Int) (qo:Int):Option (Int × Bool):=
 Option.bind (α:=Int) (r6 qo aP F 0 (aP.length:Int)) fun (k5:Int)=>
 cond (decide (k5 <(aP.length:Int))) ((idx aP k5).bind fun aDm=>
 cond (decide (aDm=qo)) (some (k5,true)) ((idx aP k5).bind fun aDn=>
 (Mv aDn).bind fun ay9=>
 cond (ay9) ((Mv qo).bind fun ay_=>
 some (k5,ay_)) (some (k5,false)))) (some (k5,false))
end J
namespace J
def tm (aG:bd) (gZ:List Int):Nat->(List (Int × Bool))->Int->Option (Way (Int) (List (Int × Bool)))
 | 0,_,_=>none
 | bL+ 1,Ai,w6=>
   cond (decide (w6 <(gZ.length:Int))) ((idx gZ w6).bind fun Wa=>
   (idx aG.H.Words (aA (Wa+ 2))).bind fun Wb=>
   cond ((decide (Wb < 1)) || (decide (aG.H.Next<=Wb))) (some (.out 3)) (tm aG gZ bL (hg Ai Wb true) (aA (w6+ 1)))) (some (.go Ai))
def Ct (F:Nat) (aG:bd):Option (Int):=
 (v' F (⟨(⟨aG.H.Words,aG.H.aL,aG.H.aW,aG.H.a5,aG.H.a2,aG.H.aZ,aG.H.Next⟩:aY),(⟨(⟨aG.S.K.ba,aG.S.K.a8,aG.S.K.Fields,aG.S.K.Names,aG.S.K.a9⟩:aU)⟩:b'),aG.aL,aG.aW,aG.dE⟩:bd)).bind fun gZ=>
 cd (α:=List (Int × Bool)) (tm aG gZ F [] 0) fun (nF:List (Int × Bool))=>
 cond (decide ((nF.length:Int) <(aG.dE.length:Int))) (some 6) (some 0)
def Ru (dh:Int):Option (Bool):=
 some (!decide (dh= 0))
def xv (s_:List Int):Nat->Int->Option (Way (Int) (Unit))
 | 0,_=>none
 | bL+ 1,uq=>
   cond (decide (uq <(s_.length:Int))) ((idx s_ uq).bind fun aE0=>
   (Ru aE0).bind fun az5=>
   cond (az5) (some (.out uq)) (xv s_ bL (aA (uq+ 1)))) (some (.go ()))
def Mt (F:Nat) (s_:List Int):Option (Int):=
 cd (α:=Unit) (xv s_ F 0) fun (_:Unit)=>
 some (-1)
def Mp (F:Nat) (s_:List Int):Option (Bool):=
 (Mt F s_).bind fun ix=>
 some (decide (0 <=ix))
def tq (aG:bd) (nN:List Int):Nat->Int->Option (Way (Int) (Unit))
 | 0,_=>none
 | ew+ 1,uh=>
   cond (decide (uh <(nN.length:Int))) ((idx nN uh).bind fun aDh=>
   (idx aG.H.Words aDh).bind fun agT=>
   cond (!decide (agT= 0)) (cond (!((dI aG.dE agT).getD false)) (some (.out 5)) (tq aG nN ew (aA (uh+ 1)))) (tq aG nN ew (aA (uh+ 1)))) (some (.go ()))
def wa (F:Nat) (aG:bd) (oS:List Int):Nat->Int->Option (Way (Int) (Unit))
 | 0,_=>none
 | bL+ 1,w5=>
   cond (decide (w5 <(oS.length:Int))) (cT (α:=Unit) ((idx oS w5).bind fun aDf=>
   (ou F (⟨(⟨aG.H.Words,aG.H.aL,aG.H.aW,aG.H.a5,aG.H.a2,aG.H.aZ,aG.H.Next⟩:aY),(⟨(⟨aG.S.K.ba,aG.S.K.a8,aG.S.K.Fields,aG.S.K.Names,aG.S.K.a9⟩:aU)⟩:b'),aG.aL,aG.aW,aG.dE⟩:bd) aDf).bind fun nN=>
   cT (α:=Unit) (tq aG nN F 0) fun (_:Unit)=>
   some (.go ())) fun (_:Unit)=>
   wa F aG oS bL (aA (w5+ 1))) (some (.go ()))
def Cv (F:Nat) (aG:bd):Option (Int):=
 (v' F (⟨(⟨aG.H.Words,aG.H.aL,aG.H.aW,aG.H.a5,aG.H.a2,aG.H.aZ,aG.H.Next⟩:aY),(⟨(⟨aG.S.K.ba,aG.S.K.a8,aG.S.K.Fields,aG.S.K.Names,aG.S.K.a9⟩:aU)⟩:b'),aG.aL,aG.aW,aG.dE⟩:bd)).bind fun oS=>
 cd (α:=Unit) (wa F aG oS F 0) fun (_:Unit)=>
 (cut aG.H.Words 0 1).bind fun avf=>
 (cut aG.H.Words aG.H.a5 (aA (aG.H.aL+ 1))).bind fun avg=>
 (cut aG.H.Words aG.H.a2 (aG.H.Words.length:Int)).bind fun avh=>
 (Du F [avf,avg,avh]).bind fun ay5=>
 (Mp F ay5).bind fun ay6=>
 cond (ay6) (some 1) (some 0)
def Km (MK:Int) (ez:bd):Option (Bool):=
 (idx ez.H.Words MK).bind fun aDM=>
 (Cs (⟨(⟨ez.H.Words,ez.H.aL,ez.H.aW,ez.H.a5,ez.H.a2,ez.H.aZ,ez.H.Next⟩:aY),(⟨(⟨ez.S.K.ba,ez.S.K.a8,ez.S.K.Fields,ez.S.K.Names,ez.S.K.a9⟩:aU)⟩:b'),ez.aL,ez.aW,ez.dE⟩:bd) aDM).bind fun GX=>
 some GX
def xu (s_:List Int) (cp:bd):Nat->Int->Option (Way (Int) (Unit))
 | 0,_=>none
 | bL+ 1,jy=>
   cond (decide (jy <(s_.length:Int))) ((idx s_ jy).bind fun Xb=>
   (Km Xb (⟨(⟨cp.H.Words,cp.H.aL,cp.H.aW,cp.H.a5,cp.H.a2,cp.H.aZ,cp.H.Next⟩:aY),(⟨(⟨cp.S.K.ba,cp.S.K.a8,cp.S.K.Fields,cp.S.K.Names,cp.S.K.a9⟩:aU)⟩:b'),cp.aL,cp.aW,cp.dE⟩:bd)).bind fun U'=>
   cond (U') (some (.out jy)) (xu s_ cp bL (aA (jy+ 1)))) (some (.go ()))
def Ms (F:Nat) (s_:List Int) (cp:bd):Option (Int):=
 cd (α:=Unit) (xu s_ cp F 0) fun (_:Unit)=>
 some (-1)
def Mo (F:Nat) (s_:List Int) (cp:bd):Option (Bool):=
 (Ms F s_ (⟨(⟨cp.H.Words,cp.H.aL,cp.H.aW,cp.H.a5,cp.H.a2,cp.H.aZ,cp.H.Next⟩:aY),(⟨(⟨cp.S.K.ba,cp.S.K.a8,cp.S.K.Fields,cp.S.K.Names,cp.S.K.a9⟩:aU)⟩:b'),cp.aL,cp.aW,cp.dE⟩:bd)).bind fun GU=>
 some (decide (0 <=GU))
def ri (F:Nat) (aG:bd):Nat->Int->Option (Way (Int) (Unit))
 | 0,_=>none
 | bL+ 1,p6=>
   cond (decide (p6 <(aG.H.aZ.length:Int))) ((idx aG.H.aZ p6).bind fun nX=>
   cond (decide (0 <p6)) ((idx aG.H.aZ (aA (p6 - 1))).bind fun aDu=>
   cond (decide (nX<=aDu)) (some (.out 4)) (cond (!((dI aG.dE nX).getD false)) (some (.out 4)) ((Cs (⟨(⟨aG.H.Words,aG.H.aL,aG.H.aW,aG.H.a5,aG.H.a2,aG.H.aZ,aG.H.Next⟩:aY),(⟨(⟨aG.S.K.ba,aG.S.K.a8,aG.S.K.Fields,aG.S.K.Names,aG.S.K.a9⟩:aU)⟩:b'),aG.aL,aG.aW,aG.dE⟩:bd) nX).bind fun UY=>
   cond (UY) (some (.out 4)) ((ou F (⟨(⟨aG.H.Words,aG.H.aL,aG.H.aW,aG.H.a5,aG.H.a2,aG.H.aZ,aG.H.Next⟩:aY),(⟨(⟨aG.S.K.ba,aG.S.K.a8,aG.S.K.Fields,aG.S.K.Names,aG.S.K.a9⟩:aU)⟩:b'),aG.aL,aG.aW,aG.dE⟩:bd) nX).bind fun UZ=>
   cond (decide ((UZ.length:Int)= 0)) (some (.out 4)) (ri F aG bL (aA (p6+ 1))))))) (cond (!((dI aG.dE nX).getD false)) (some (.out 4)) ((Cs (⟨(⟨aG.H.Words,aG.H.aL,aG.H.aW,aG.H.a5,aG.H.a2,aG.H.aZ,aG.H.Next⟩:aY),(⟨(⟨aG.S.K.ba,aG.S.K.a8,aG.S.K.Fields,aG.S.K.Names,aG.S.K.a9⟩:aU)⟩:b'),aG.aL,aG.aW,aG.dE⟩:bd) nX).bind fun azk=>
   cond (azk) (some (.out 4)) ((ou F (⟨(⟨aG.H.Words,aG.H.aL,aG.H.aW,aG.H.a5,aG.H.a2,aG.H.aZ,aG.H.Next⟩:aY),(⟨(⟨aG.S.K.ba,aG.S.K.a8,aG.S.K.Fields,aG.S.K.Names,aG.S.K.a9⟩:aU)⟩:b'),aG.aL,aG.aW,aG.dE⟩:bd) nX).bind fun azl=>
   cond (decide ((azl.length:Int)= 0)) (some (.out 4)) (ri F aG bL (aA (p6+ 1))))))) (some (.go ()))
def tp (F:Nat) (aG:bd):Nat->Int->Option (Way (Int) (Unit))
 | 0,_=>none
 | ew+ 1,ul=>
   cond (decide (ul <(aG.aW.length:Int))) ((idx aG.aW ul).bind fun ag9=>
   (Hj F aG.H.aZ ag9).bind fun azw=>
   cond (!azw.2) ((ou F (⟨(⟨aG.H.Words,aG.H.aL,aG.H.aW,aG.H.a5,aG.H.a2,aG.H.aZ,aG.H.Next⟩:aY),(⟨(⟨aG.S.K.ba,aG.S.K.a8,aG.S.K.Fields,aG.S.K.Names,aG.S.K.a9⟩:aU)⟩:b'),aG.aL,aG.aW,aG.dE⟩:bd) ag9).bind fun azx=>
   (Mo F azx (⟨(⟨aG.H.Words,aG.H.aL,aG.H.aW,aG.H.a5,aG.H.a2,aG.H.aZ,aG.H.Next⟩:aY),(⟨(⟨aG.S.K.ba,aG.S.K.a8,aG.S.K.Fields,aG.S.K.Names,aG.S.K.a9⟩:aU)⟩:b'),aG.aL,aG.aW,aG.dE⟩:bd)).bind fun azy=>
   cond (azy) (some (.out 4)) (tp F aG ew (aA (ul+ 1)))) (tp F aG ew (aA (ul+ 1)))) (some (.go ()))
def Cu (F:Nat) (aG:bd):Option (Int):=
 cd (α:=Unit) (ri F aG F 0) fun (_:Unit)=>
 cd (α:=Unit) (tp F aG F 0) fun (_:Unit)=>
 some 0
end J
namespace J
def rj (F:Nat) (aB:aY) (aS:aU):Option ((Option bd) × Int):=
 (Cw (⟨aB.Words,aB.aL,aB.aW,aB.a5,aB.a2,aB.aZ,aB.Next⟩:aY)).bind fun k8=>
 cond (!decide (k8= 0)) (some ((none:Option bd),k8)) ((lG F (⟨(⟨aB.Words,aB.aL,aB.aW,aB.a5,aB.a2,aB.aZ,aB.Next⟩:aY),(⟨(⟨aS.ba,aS.a8,aS.Fields,aS.Names,aS.a9⟩:aU)⟩:b'),[],[],[]⟩:bd) 1 aB.a5).bind fun gZ=>
 (lG F (⟨(⟨aB.Words,aB.aL,aB.aW,aB.a5,aB.a2,aB.aZ,aB.Next⟩:aY),(⟨(⟨aS.ba,aS.a8,aS.Fields,aS.Names,aS.a9⟩:aU)⟩:b'),[],[],gZ.2.2.dE⟩:bd) (aA (aB.aL+ 1)) aB.a2).bind fun mO=>
 cond ((!gZ.2.1) || (!mO.2.1)) (some ((none:Option bd),1)) ((Ct F (⟨(⟨aB.Words,aB.aL,aB.aW,aB.a5,aB.a2,aB.aZ,aB.Next⟩:aY),(⟨(⟨aS.ba,aS.a8,aS.Fields,aS.Names,aS.a9⟩:aU)⟩:b'),gZ.1,mO.1,mO.2.2.dE⟩:bd)).bind fun aeM=>
 cond (!decide (aeM= 0)) (some ((none:Option bd),aeM)) ((Cv F (⟨(⟨aB.Words,aB.aL,aB.aW,aB.a5,aB.a2,aB.aZ,aB.Next⟩:aY),(⟨(⟨aS.ba,aS.a8,aS.Fields,aS.Names,aS.a9⟩:aU)⟩:b'),gZ.1,mO.1,mO.2.2.dE⟩:bd)).bind fun L1=>
 cond (!decide (L1= 0)) (some ((none:Option bd),L1)) ((Cu F (⟨(⟨aB.Words,aB.aL,aB.aW,aB.a5,aB.a2,aB.aZ,aB.Next⟩:aY),(⟨(⟨aS.ba,aS.a8,aS.Fields,aS.Names,aS.a9⟩:aU)⟩:b'),gZ.1,mO.1,mO.2.2.dE⟩:bd)).bind fun L2=>
 cond (!decide (L2= 0)) (some ((none:Option bd),L2)) (some ((some (⟨(⟨aB.Words,aB.aL,aB.aW,aB.a5,aB.a2,aB.aZ,aB.Next⟩:aY),(⟨(⟨aS.ba,aS.a8,aS.Fields,aS.Names,aS.a9⟩:aU)⟩:b'),gZ.1,mO.1,mO.2.2.dE⟩:bd)),0))))))
end J
namespace J
def jO (F:Nat) (aB:aY) (aS:aU):Option ((Option bd) × Int):=
 (nC F (⟨aS.ba,aS.a8,aS.Fields,aS.Names,aS.a9⟩:aU)).bind fun k8=>
 cond (!decide (k8= 0)) (some ((none:Option bd),k8)) ((rj F (⟨aB.Words,aB.aL,aB.aW,aB.a5,aB.a2,aB.aZ,aB.Next⟩:aY) (⟨aS.ba,aS.a8,aS.Fields,aS.Names,aS.a9⟩:aU)).bind fun hQ=>
 some (hQ.1,hQ.2))
def VE (s_:List Int):Option (List Int):=
 (bK 8 ([]:List Int) s_).bind fun tP=>
 some tP
def tf (aB:aY):Option (aY):=
 (VE aB.Words).bind fun fz=>
 (VE aB.aZ).bind fun hn=>
 some (⟨fz,aB.aL,aB.aW,aB.a5,aB.a2,hn,aB.Next⟩:aY)
def Rs (aB:aY) (gj:Int) (pW:Int) (Az:Bool):Option (Int × Bool × aY):=
 cond (Az) (cond (decide ((aA ((aA ((aA (aB.aL+aB.aW))+ 1)) - aB.a2)) <(aA (3 +pW)))) (some (0,false,(⟨aB.Words,aB.aL,aB.aW,aB.a5,aB.a2,aB.aZ,aB.Next⟩:aY))) ((idx aB.Words aB.a2).bind fun aHH=>
 (some (aB.Words.set (aB.a2).toNat gj)).bind fun acU=>
 (idx acU (aA (aB.a2+ 1))).bind fun eQ=>
 (some (acU.set (aA (aB.a2+ 1)).toNat pW)).bind fun acX=>
 (idx acX (aA (aB.a2+ 2))).bind fun aHC=>
 (some (acX.set (aA (aB.a2+ 2)).toNat aB.Next)).bind fun avG=>
 some (aB.a2,true,(⟨avG,aB.aL,aB.aW,aB.a5,aA (aB.a2+(aA (3 +pW))),aB.aZ,aA (aB.Next+ 1)⟩:aY)))) (cond (decide ((aA ((aA (aB.aL+ 1)) - aB.a5)) <(aA (3 +pW)))) (some (0,false,(⟨aB.Words,aB.aL,aB.aW,aB.a5,aB.a2,aB.aZ,aB.Next⟩:aY))) ((idx aB.Words aB.a5).bind fun aHD=>
 (some (aB.Words.set (aB.a5).toNat gj)).bind fun ac0=>
 (idx ac0 (aA (aB.a5+ 1))).bind fun aHE=>
 (some (ac0.set (aA (aB.a5+ 1)).toNat pW)).bind fun ac1=>
 (idx ac1 (aA (aB.a5+ 2))).bind fun aHF=>
 (some (ac1.set (aA (aB.a5+ 2)).toNat aB.Next)).bind fun av4=>
 some (aB.a5,true,(⟨av4,aB.aL,aB.aW,aA (aB.a5+(aA (3 +pW))),aB.a2,aB.aZ,aA (aB.Next+ 1)⟩:aY))))
def abJ (F:Nat) (aB:aY) (aS:aU) (gj:Int) (pW:Int) (Az:Bool):Option (aY × Int × Int):=
 (jO F (⟨aB.Words,aB.aL,aB.aW,aB.a5,aB.a2,aB.aZ,aB.Next⟩:aY) (⟨aS.ba,aS.a8,aS.Fields,aS.Names,aS.a9⟩:aU)).bind fun hp=>
 Option.bind (α:=Int) (cond (decide (hp.2 = 0)) ((hp.1).bind fun Ib=>
 (Rt (⟨(⟨Ib.S.K.ba,Ib.S.K.a8,Ib.S.K.Fields,Ib.S.K.Names,Ib.S.K.a9⟩:aU)⟩:b') gj pW).bind fun azR=>
 some azR) (some hp.2)) fun (adH:Int)=>
 cond (!decide (adH= 0)) (some ((⟨[],0,0,0,0,[],0⟩:aY),0,adH)) ((tf (⟨aB.Words,aB.aL,aB.aW,aB.a5,aB.a2,aB.aZ,aB.Next⟩:aY)).bind fun rY=>
 (Rs (⟨rY.Words,rY.aL,rY.aW,rY.a5,rY.a2,rY.aZ,rY.Next⟩:aY) gj pW Az).bind fun Dh=>
 cond (!Dh.2.1) (some ((⟨[],0,0,0,0,[],0⟩:aY),0,8)) (some ((⟨Dh.2.2.Words,rY.aL,rY.aW,Dh.2.2.a5,Dh.2.2.a2,rY.aZ,Dh.2.2.Next⟩:aY),Dh.1,0)))
end J
namespace J
def I3 (b9:List Int) (cx:List Int):Nat->Int->Option (Way (Bool) (Unit))
 | 0,_=>none
 | bL+ 1,cV=>
   cond (decide (cV <(b9.length:Int))) ((idx b9 cV).bind fun l7=>
   (idx cx cV).bind fun l8=>
   cond (!decide (l7=l8)) (some (.out false)) (I3 b9 cx bL (aA (cV+ 1)))) (some (.go ()))
def ph (F:Nat) (b9:List Int) (cx:List Int):Option (Bool):=
 cond (!decide ((b9.length:Int)=(cx.length:Int))) (some false) (cd (α:=Unit) (I3 b9 cx F 0) fun (_:Unit)=>
 some true)
def OG (F:Nat) (b9:aY) (cx:aY):Option (Bool):=
 (ph F b9.Words cx.Words).bind fun ay4=>
 cond ((((ay4 && (decide (b9.aL=cx.aL))) && (decide (b9.aW=cx.aW))) && (decide (b9.a5=cx.a5))) && (decide (b9.a2=cx.a2))) ((ph F b9.aZ cx.aZ).bind fun UW=>
 some (UW && (decide (b9.Next=cx.Next)))) (some false)
def yx (F:Nat) (aB:aY) (e_:Int) (MK:Int) (AN:aY):Option (Bool):=
 Option.bind (α:=(List Int) × Int × Int × Int × Int × (List Int) × Int) (cond (!decide (MK= 0)) (some ([],0,0,0,0,[],0)) (some (AN.Words,AN.aL,AN.aW,AN.a5,AN.a2,AN.aZ,AN.Next))) fun ((avi,axe,axf,axg,axh,avw,axk):(List Int) × Int × Int × Int × Int × (List Int) × Int)=>
 cond (decide (e_=MK)) ((OG F (⟨aB.Words,aB.aL,aB.aW,aB.a5,aB.a2,aB.aZ,aB.Next⟩:aY) (⟨avi,axe,axf,axg,axh,avw,axk⟩:aY)).bind fun GV=>
 some GV) (some false)
end J
namespace J
def BK (aS:aU) (gj:Int):Option (Bool):=
 some ((decide (1 <=gj)) && (decide (gj <(aA (3 +(aS.ba.length:Int))))))
def BJ (aS:aU) (gj:Int) (dh:Int):Option (Bool):=
 (fv dh 0 500).bind fun hn=>
 cond (hn) (cond (decide (gj < 3)) (some true) ((idx aS.Fields (aA (gj - 3))).bind fun Wl=>
 some (decide (dh=(Wl.length:Int))))) (some false)
def sG (aS:aU) (gj:Int) (dh:Int):Option (Bool):=
 cond (decide (gj= 2)) (some true) (cond (decide (3 <=gj)) ((idx aS.Fields (aA (gj - 3))).bind fun Wh=>
 (idx Wh dh).bind fun WA=>
 some (!decide (WA.Kind.Kind= 1))) (some false))
def vq (aB:aY) (aS:aU) (jg:Int):Nat->(List Int)->Int->Option (Way ((List Int) × Bool) ((List Int) × Int))
 | 0,_,_=>none
 | bL+ 1,acZ,uo=>
   cond (decide (uo <jg)) (cond (decide (jg <(aA (uo+ 3)))) (some (.out ([],false))) ((idx aB.Words uo).bind fun aEd=>
   (BK (⟨aS.ba,aS.a8,aS.Fields,aS.Names,aS.a9⟩:aU) aEd).bind fun azI=>
   cond (!azI) (some (.out ([],false))) ((idx aB.Words uo).bind fun aEi=>
   (idx aB.Words (aA (uo+ 1))).bind fun aEl=>
   (BJ (⟨aS.ba,aS.a8,aS.Fields,aS.Names,aS.a9⟩:aU) aEi aEl).bind fun azL=>
   cond (!azL) (some (.out ([],false))) ((bK 8 acZ [uo]).bind fun avL=>
   (idx aB.Words (aA (uo+ 1))).bind fun aEG=>
   vq aB aS jg bL avL (aA (uo+(aA (3 +aEG)))))))) (some (.go (acZ,uo)))
def pj (F:Nat) (aB:aY) (aS:aU) (from_:Int) (jg:Int):Option ((List Int) × Bool):=
 cd (α:=(List Int) × Int) (vq aB aS jg F [] from_) fun ((avC,axl):(List Int) × Int)=>
 some (avC,decide (axl=jg))
def yU (a_:List Int) (dh:Int):Nat->Int->Option (Way (Bool) (Unit))
 | 0,_=>none
 | bL+ 1,hh=>
   cond (decide (hh <(a_.length:Int))) ((idx a_ hh).bind fun Bf=>
   cond (decide (Bf=dh)) (some (.out true)) (yU a_ dh bL (aA (hh+ 1)))) (some (.go ()))
def j6 (F:Nat) (a_:List Int) (dh:Int):Option (Bool):=
 cd (α:=Unit) (yU a_ dh F 0) fun (_:Unit)=>
 some false
def sD (at_:Int) (aB:aY) (aS:aU):Nat->(List Int)->Int->Option (List Int)
 | 0,_,_=>none
 | bL+ 1,SG,Lm=>
   (idx aB.Words (aA (at_+ 1))).bind fun aEK=>
   cond (decide (Lm <aEK)) (Option.bind (α:=List Int) ((idx aB.Words at_).bind fun aEN=>
   (sG (⟨aS.ba,aS.a8,aS.Fields,aS.Names,aS.a9⟩:aU) aEN Lm).bind fun azP=>
   cond (azP) ((bK 8 SG [aA ((aA (at_+ 3))+Lm)]).bind fun avP=>
   some avP) (some SG)) fun (avN:List Int)=>
   sD at_ aB aS bL avN (aA (Lm+ 1))) (some SG)
def na (F:Nat) (aB:aY) (aS:aU) (at_:Int):Option (List Int):=
 Option.bind (α:=List Int) (sD at_ aB aS F [] 0) fun (avH:List Int)=>
 some avH
def pk (F:Nat) (aB:aY) (aS:aU):Option ((List Int) × (List Int) × Bool):=
 (pj F (⟨aB.Words,aB.aL,aB.aW,aB.a5,aB.a2,aB.aZ,aB.Next⟩:aY) (⟨aS.ba,aS.a8,aS.Fields,aS.Names,aS.a9⟩:aU) 1 aB.a5).bind fun k8=>
 (pj F (⟨aB.Words,aB.aL,aB.aW,aB.a5,aB.a2,aB.aZ,aB.Next⟩:aY) (⟨aS.ba,aS.a8,aS.Fields,aS.Names,aS.a9⟩:aU) (aA (aB.aL+ 1)) aB.a2).bind fun gZ=>
 some (k8.1,gZ.1,k8.2 && gZ.2)
end J
namespace J
def yC (aB:aY) (hD:List Int):Nat->Int->Option (Way (Int) (Unit))
 | 0,_=>none
 | bL+ 1,Tb=>
   cond (decide (Tb <(hD.length:Int))) ((idx hD Tb).bind fun Wg=>
   (idx aB.Words (aA (Wg+ 2))).bind fun AY=>
   (fv AY 1 (aA (aB.Next - 1))).bind fun ay8=>
   cond (!ay8) (some (.out 3)) (yC aB hD bL (aA (Tb+ 1)))) (some (.go ()))
def yD (aB:aY) (hD:List Int) (Ar:Int):Nat->Int->Option (Way (Int) (Unit))
 | 0,_=>none
 | gU+ 1,Tc=>
   cond (decide (Tc <Ar)) ((idx hD Ar).bind fun aDi=>
   (idx aB.Words (aA (aDi+ 2))).bind fun aDj=>
   (idx hD Tc).bind fun aDk=>
   (idx aB.Words (aA (aDk+ 2))).bind fun aDl=>
   cond (decide (aDj=aDl)) (some (.out 6)) (yD aB hD Ar gU (aA (Tc+ 1)))) (some (.go ()))
def vi (F:Nat) (aB:aY) (hD:List Int):Nat->Int->Option (Way (Int) (Unit))
 | 0,_=>none
 | ew+ 1,Ar=>
   cond (decide (Ar <(hD.length:Int))) (cT (α:=Unit) (cT (α:=Unit) (yD aB hD Ar F 0) fun (_:Unit)=>
   some (.go ())) fun (_:Unit)=>
   vi F aB hD ew (aA (Ar+ 1))) (some (.go ()))
def vj (F:Nat) (aB:aY) (hD:List Int) (AD:List Int):Nat->Int->Option (Way (Int) (Unit))
 | 0,_=>none
 | rv+ 1,Gr=>
   cond (decide (Gr <(AD.length:Int))) ((idx AD Gr).bind fun aD7=>
   (idx aB.Words aD7).bind fun aD8=>
   cond (!decide (aD8= 0)) ((idx AD Gr).bind fun aD_=>
   (idx aB.Words aD_).bind fun aEa=>
   (j6 F hD aEa).bind fun azG=>
   cond (!azG) (some (.out 5)) (vj F aB hD AD rv (aA (Gr+ 1)))) (vj F aB hD AD rv (aA (Gr+ 1)))) (some (.go ()))
def yE (F:Nat) (aB:aY) (aS:aU) (hD:List Int):Nat->Int->Option (Way (Int) (Unit))
 | 0,_=>none
 | k0+ 1,Tl=>
   cond (decide (Tl <(hD.length:Int))) (cT (α:=Unit) ((idx hD Tl).bind fun aD3=>
   (na F (⟨aB.Words,aB.aL,aB.aW,aB.a5,aB.a2,aB.aZ,aB.Next⟩:aY) (⟨aS.ba,aS.a8,aS.Fields,aS.Names,aS.a9⟩:aU) aD3).bind fun AD=>
   cT (α:=Unit) (vj F aB hD AD F 0) fun (_:Unit)=>
   some (.go ())) fun (_:Unit)=>
   yE F aB aS hD k0 (aA (Tl+ 1))) (some (.go ()))
def sA (aB:aY):Nat->Int->Option (Way (Int) (Unit))
 | 0,_=>none
 | ww+ 1,An=>
   cond (decide (An <(aB.Words.length:Int))) ((idx aB.Words An).bind fun aEc=>
   cond (!decide (aEc= 0)) (cond (decide (An= 0)) (some (.out 1)) ((fv An aB.a5 aB.aL).bind fun azH=>
   cond (azH || (decide (aB.a2<=An))) (some (.out 1)) (sA aB ww (aA (An+ 1))))) (sA aB ww (aA (An+ 1)))) (some (.go ()))
def n8 (F:Nat) (aB:aY) (aS:aU) (ei:(List Int) × (List Int) × Bool):Nat->Int->Option (Way (Int) (Unit))
 | 0,_=>none
 | KP+ 1,ks=>
   cond (decide (ks <(aB.aZ.length:Int))) (cond (decide (0 <ks)) ((idx aB.aZ ks).bind fun aEe=>
   (idx aB.aZ (aA (ks - 1))).bind fun aEf=>
   cond (decide (aEe<=aEf)) (some (.out 4)) ((idx aB.aZ ks).bind fun aEg=>
   (j6 F ei.2.1 aEg).bind fun U7=>
   cond (!U7) (some (.out 4)) ((idx aB.aZ ks).bind fun WM=>
   (na F (⟨aB.Words,aB.aL,aB.aW,aB.a5,aB.a2,aB.aZ,aB.Next⟩:aY) (⟨aS.ba,aS.a8,aS.Fields,aS.Names,aS.a9⟩:aU) WM).bind fun U8=>
   cond (decide ((U8.length:Int)= 0)) (some (.out 4)) (n8 F aB aS ei KP (aA (ks+ 1)))))) ((idx aB.aZ ks).bind fun aEh=>
   (j6 F ei.2.1 aEh).bind fun azJ=>
   cond (!azJ) (some (.out 4)) ((idx aB.aZ ks).bind fun aEj=>
   (na F (⟨aB.Words,aB.aL,aB.aW,aB.a5,aB.a2,aB.aZ,aB.Next⟩:aY) (⟨aS.ba,aS.a8,aS.Fields,aS.Names,aS.a9⟩:aU) aEj).bind fun azK=>
   cond (decide ((azK.length:Int)= 0)) (some (.out 4)) (n8 F aB aS ei KP (aA (ks+ 1)))))) (some (.go ()))
def pf (F:Nat) (aB:aY) (ei:(List Int) × (List Int) × Bool) (h5:Int) (nP:List Int):Nat->Int->Option (Way (Int) (Unit))
 | 0,_=>none
 | KQ+ 1,p8=>
   cond (decide (p8 <(nP.length:Int))) ((idx nP p8).bind fun aE1=>
   (idx aB.Words aE1).bind fun aE2=>
   (fv aE2 1 aB.aL).bind fun az1=>
   cond (az1) ((idx ei.2.1 h5).bind fun aE3=>
   (j6 F aB.aZ aE3).bind fun az2=>
   cond (!az2) (some (.out 4)) (pf F aB ei h5 nP KQ (aA (p8+ 1)))) (pf F aB ei h5 nP KQ (aA (p8+ 1)))) (some (.go ()))
def qT (F:Nat) (aB:aY) (aS:aU) (ei:(List Int) × (List Int) × Bool):Nat->Int->Option (Way (Int) (Unit))
 | 0,_=>none
 | Sz+ 1,h5=>
   cond (decide (h5 <(ei.2.1.length:Int))) (cT (α:=Unit) ((idx ei.2.1 h5).bind fun aEZ=>
   (na F (⟨aB.Words,aB.aL,aB.aW,aB.a5,aB.a2,aB.aZ,aB.Next⟩:aY) (⟨aS.ba,aS.a8,aS.Fields,aS.Names,aS.a9⟩:aU) aEZ).bind fun nP=>
   cT (α:=Unit) (pf F aB ei h5 nP F 0) fun (_:Unit)=>
   some (.go ())) fun (_:Unit)=>
   qT F aB aS ei Sz (aA (h5+ 1))) (some (.go ()))
def BI (F:Nat) (aB:aY) (aS:aU):Option (Int):=
 (fv aB.aL 3 2000).bind fun k8=>
 cond (!k8) (some 3) ((fv aB.aW 3 2000).bind fun hQ=>
 cond (!hQ) (some 3) (cond (!decide ((aB.Words.length:Int)=(aA ((aA (1 +aB.aL))+aB.aW)))) (some 1) ((fv aB.a5 1 (aA (aB.aL+ 1))).bind fun Dg=>
 cond (!Dg) (some 3) ((fv aB.a2 (aA (aB.aL+ 1)) (aA ((aA (aB.aL+aB.aW))+ 1))).bind fun mO=>
 cond ((!mO) || (decide (aB.Next < 1))) (some 3) ((pk F (⟨aB.Words,aB.aL,aB.aW,aB.a5,aB.a2,aB.aZ,aB.Next⟩:aY) (⟨aS.ba,aS.a8,aS.Fields,aS.Names,aS.a9⟩:aU)).bind fun ei=>
 cond (!ei.2.2) (some 1) ((bK 8 ([]:List Int) ei.1).bind fun avJ=>
 (bK 8 avJ ei.2.1).bind fun hD=>
 cd (α:=Unit) (yC aB hD F 0) fun (_:Unit)=>
 cd (α:=Unit) (vi F aB hD F 0) fun (_:Unit)=>
 cd (α:=Unit) (yE F aB aS hD F 0) fun (_:Unit)=>
 cd (α:=Unit) (sA aB F 0) fun (_:Unit)=>
 cd (α:=Unit) (n8 F aB aS ei F 0) fun (_:Unit)=>
 cd (α:=Unit) (qT F aB aS ei F 0) fun (_:Unit)=>
 some 0))))))
def n_ (F:Nat) (aB:aY) (aS:aU):Option (Int):=
 (sC F (⟨aS.ba,aS.a8,aS.Fields,aS.Names,aS.a9⟩:aU)).bind fun k8=>
 cond (decide (k8= 0)) ((BI F (⟨aB.Words,aB.aL,aB.aW,aB.a5,aB.a2,aB.aZ,aB.Next⟩:aY) (⟨aS.ba,aS.a8,aS.Fields,aS.Names,aS.a9⟩:aU)).bind fun hQ=>
 some hQ) (some k8)
end J
namespace J
def XG (aB:aY):Option (Int):=
 some (aA ((aA ((aA ((aA (aB.aL+aB.aW))+ 1)) - aB.a2)) - (aA (aB.a5 - 1))))
def ajR (F:Nat) (aB:aY) (aS:aU):Option (Int × Int):=
 (jO F (⟨aB.Words,aB.aL,aB.aW,aB.a5,aB.a2,aB.aZ,aB.Next⟩:aY) (⟨aS.ba,aS.a8,aS.Fields,aS.Names,aS.a9⟩:aU)).bind fun k8=>
 cond (!decide (k8.2 = 0)) (some (0,k8.2)) ((XG (⟨aB.Words,aB.aL,aB.aW,aB.a5,aB.a2,aB.aZ,aB.Next⟩:aY)).bind fun L2=>
 some (L2,0))
def Yg (aB:aY):Option (Int):=
 some (aA ((aA ((aA ((aA ((aA (aB.aL+aB.aW))+ 1)) - aB.a2)) - aB.a5))+ 1))
end J
namespace J
def NS (at_:Int) (ez:bd):Option (Bool):=
 cond (!decide (at_= 0)) ((Cr (⟨(⟨ez.H.Words,ez.H.aL,ez.H.aW,ez.H.a5,ez.H.a2,ez.H.aZ,ez.H.Next⟩:aY),(⟨(⟨ez.S.K.ba,ez.S.K.a8,ez.S.K.Fields,ez.S.K.Names,ez.S.K.a9⟩:aU)⟩:b'),ez.aL,ez.aW,ez.dE⟩:bd) at_).bind fun Dg=>
 some (!Dg)) (some false)
def xw (s_:List Int) (cp:bd):Nat->Int->Option (Way (Int) (Unit))
 | 0,_=>none
 | bL+ 1,jy=>
   cond (decide (jy <(s_.length:Int))) ((idx s_ jy).bind fun Xb=>
   (NS Xb (⟨(⟨cp.H.Words,cp.H.aL,cp.H.aW,cp.H.a5,cp.H.a2,cp.H.aZ,cp.H.Next⟩:aY),(⟨(⟨cp.S.K.ba,cp.S.K.a8,cp.S.K.Fields,cp.S.K.Names,cp.S.K.a9⟩:aU)⟩:b'),cp.aL,cp.aW,cp.dE⟩:bd)).bind fun U'=>
   cond (U') (some (.out jy)) (xw s_ cp bL (aA (jy+ 1)))) (some (.go ()))
def Mu (F:Nat) (s_:List Int) (cp:bd):Option (Int):=
 cd (α:=Unit) (xw s_ cp F 0) fun (_:Unit)=>
 some (-1)
def Mq (F:Nat) (s_:List Int) (cp:bd):Option (Bool):=
 (Mu F s_ (⟨(⟨cp.H.Words,cp.H.aL,cp.H.aW,cp.H.a5,cp.H.a2,cp.H.aZ,cp.H.Next⟩:aY),(⟨(⟨cp.S.K.ba,cp.S.K.a8,cp.S.K.Fields,cp.S.K.Names,cp.S.K.a9⟩:aU)⟩:b'),cp.aL,cp.aW,cp.dE⟩:bd)).bind fun GU=>
 some (decide (0 <=GU))
def Bs (F:Nat) (aG:bd) (fG:List Int):Option (Int):=
 cond (decide (1000 <(fG.length:Int))) (some 2) ((Mq F fG (⟨(⟨aG.H.Words,aG.H.aL,aG.H.aW,aG.H.a5,aG.H.a2,aG.H.aZ,aG.H.Next⟩:aY),(⟨(⟨aG.S.K.ba,aG.S.K.a8,aG.S.K.Fields,aG.S.K.Names,aG.S.K.a9⟩:aU)⟩:b'),aG.aL,aG.aW,aG.dE⟩:bd)).bind fun GU=>
 cond (GU) (some 5) (some 0))
def n9 (F:Nat) (fG:List Int) (hQ:(List Int) × (List Int) × Bool):Nat->Int->Option (Way (Int) (Unit))
 | 0,_=>none
 | bL+ 1,mL=>
   cond (decide (mL <(fG.length:Int))) ((idx fG mL).bind fun aDq=>
   cond (!decide (aDq= 0)) ((idx fG mL).bind fun aDt=>
   (j6 F hQ.1 aDt).bind fun aze=>
   cond (!aze) ((idx fG mL).bind fun aDA=>
   (j6 F hQ.2.1 aDA).bind fun azj=>
   cond (!azj) (some (.out 5)) (n9 F fG hQ bL (aA (mL+ 1)))) (n9 F fG hQ bL (aA (mL+ 1)))) (n9 F fG hQ bL (aA (mL+ 1)))) (some (.go ()))
def vn (F:Nat) (aB:aY) (aS:aU) (fG:List Int):Option (Int):=
 cond (decide (1000 <(fG.length:Int))) (some 2) ((pk F (⟨aB.Words,aB.aL,aB.aW,aB.a5,aB.a2,aB.aZ,aB.Next⟩:aY) (⟨aS.ba,aS.a8,aS.Fields,aS.Names,aS.a9⟩:aU)).bind fun hQ=>
 cd (α:=Unit) (n9 F fG hQ F 0) fun (_:Unit)=>
 some 0)
def qN (F:Nat) (aB:aY) (aS:aU) (fG:List Int):Option (Int):=
 (n_ F (⟨aB.Words,aB.aL,aB.aW,aB.a5,aB.a2,aB.aZ,aB.Next⟩:aY) (⟨aS.ba,aS.a8,aS.Fields,aS.Names,aS.a9⟩:aU)).bind fun aeK=>
 cond (decide (aeK= 0)) ((vn F (⟨aB.Words,aB.aL,aB.aW,aB.a5,aB.a2,aB.aZ,aB.Next⟩:aY) (⟨aS.ba,aS.a8,aS.Fields,aS.Names,aS.a9⟩:aU) fG).bind fun gZ=>
 some gZ) (some aeK)
end J
namespace J
def Yh (a_:List Int) (dh:Int):Nat->Int->Option (Way (Int) (Unit))
 | 0,_=>none
 | bL+ 1,hh=>
   cond (decide (hh <(a_.length:Int))) ((idx a_ hh).bind fun Bf=>
   cond (decide (Bf=dh)) (some (.out hh)) (Yh a_ dh bL (aA (hh+ 1)))) (some (.go ()))
def EB (F:Nat) (a_:List Int) (dh:Int):Option (Int):=
 cd (α:=Unit) (Yh a_ dh F 0) fun (_:Unit)=>
 some (-1)
def Ey (F:Nat) (at_:Int) (ez:aY) (LV:List Int):Option (List Int):=
 (fv at_ 1 ez.aL).bind fun hn=>
 cond (hn) ((j6 F LV at_).bind fun ho=>
 cond (!ho) ((bK 8 LV [at_]).bind fun avv=>
 some avv) (some LV)) (some LV)
end J
namespace J
def BB (F:Nat) (at_:Int) (ez:List Int):Option (Int × (List Int)):=
 cond (decide (at_= 0)) (some (0,ez)) ((EB F ez at_).bind fun fz=>
 cond (decide (fz < 0)) ((bK 8 ez [at_]).bind fun acT=>
 some (aA ((aA ((acT.length:Int) - 1))+ 1),acT)) (some (aA (fz+ 1),ez)))
def Ya (F:Nat) (fG:List Int):Nat->(List Int)->(List Int)->Int->Option ((List Int) × (List Int))
 | 0,_,_,_=>none
 | bL+ 1,gV,acY,Tm=>
   cond (decide (Tm <(fG.length:Int))) ((idx fG Tm).bind fun aD4=>
   (BB F aD4 acY).bind fun aeN=>
   (bK 8 gV [aeN.1]).bind fun avI=>
   Ya F fG bL avI aeN.2 (aA (Tm+ 1))) (some (gV,acY))
def Yb (F:Nat) (aB:aY) (aS:aU) (u0:Int):Nat->(List Int)->(List Int)->Int->Option ((List Int) × (List Int))
 | 0,_,_,_=>none
 | gU+ 1,ac7,SP,Ls=>
   (idx aB.Words (aA (u0+ 1))).bind fun aFy=>
   cond (decide (Ls <aFy)) (Option.bind (α:=(List Int) × (List Int)) ((idx aB.Words (aA ((aA (u0+ 3))+Ls))).bind fun ajf=>
   Option.bind (α:=(List Int) × Int) ((idx aB.Words u0).bind fun aFz=>
   (sG (⟨aS.ba,aS.a8,aS.Fields,aS.Names,aS.a9⟩:aU) aFz Ls).bind fun aAc=>
   cond (aAc) ((BB F ajf SP).bind fun aeV=>
   some (aeV.2,aeV.1)) (some (SP,ajf))) fun ((awp,axo):(List Int) × Int)=>
   (bK 8 ac7 [axo]).bind fun awq=>
   some (awq,awp)) fun ((awn,awo):(List Int) × (List Int))=>
   Yb F aB aS u0 gU awn awo (aA (Ls+ 1))) (some (ac7,SP))
def BC (F:Nat) (aB:aY) (aS:aU):Nat->(List Int)->(List Int)->Int->Option ((List Int) × (List Int))
 | 0,_,_,_=>none
 | ew+ 1,ac4,KU,Tu=>
   cond (decide (Tu <(KU.length:Int))) (Option.bind (α:=(List Int) × (List Int)) ((idx KU Tu).bind fun u0=>
   (idx aB.Words u0).bind fun aFn=>
   (idx aB.Words (aA (u0+ 1))).bind fun aFo=>
   (idx aB.Words (aA (u0+ 2))).bind fun aFp=>
   (bK 8 ac4 [aFn,aFo,aFp]).bind fun awj=>
   Option.bind (α:=(List Int) × (List Int)) (Yb F aB aS u0 F awj KU 0) fun ((awk,awl):(List Int) × (List Int))=>
   some (awk,awl)) fun ((awh,awi):(List Int) × (List Int))=>
   BC F aB aS ew awh awi (aA (Tu+ 1))) (some (ac4,KU))
def BA (F:Nat) (aB:aY) (aS:aU) (fG:List Int):Option (List Int):=
 Option.bind (α:=(List Int) × (List Int)) (Ya F fG F [] [] 0) fun ((avB,avD):(List Int) × (List Int))=>
 Option.bind (α:=(List Int) × (List Int)) (BC F aB aS F avB avD 0) fun ((avO,aHd):(List Int) × (List Int))=>
 some avO
def Oq (F:Nat) (aB:aY) (aS:aU) (fG:List Int) (aP:aY) (S_:List Int):Option (Bool):=
 (n_ F (⟨aP.Words,aP.aL,aP.aW,aP.a5,aP.a2,aP.aZ,aP.Next⟩:aY) (⟨aS.ba,aS.a8,aS.Fields,aS.Names,aS.a9⟩:aU)).bind fun GV=>
 cond (decide (GV= 0)) ((vn F (⟨aP.Words,aP.aL,aP.aW,aP.a5,aP.a2,aP.aZ,aP.Next⟩:aY) (⟨aS.ba,aS.a8,aS.Fields,aS.Names,aS.a9⟩:aU) S_).bind fun GX=>
 cond ((decide (GX= 0)) && (decide ((fG.length:Int)=(S_.length:Int)))) ((BA F (⟨aB.Words,aB.aL,aB.aW,aB.a5,aB.a2,aB.aZ,aB.Next⟩:aY) (⟨aS.ba,aS.a8,aS.Fields,aS.Names,aS.a9⟩:aU) fG).bind fun U6=>
 (BA F (⟨aP.Words,aP.aL,aP.aW,aP.a5,aP.a2,aP.aZ,aP.Next⟩:aY) (⟨aS.ba,aS.a8,aS.Fields,aS.Names,aS.a9⟩:aU) S_).bind fun L1=>
 (ph F U6 L1).bind fun azN=>
 some azN) (some false)) (some false)
end J
namespace Go.Proofs.YteeliipnilghaaaGreat
open Go Go.RowKit au J bn
@[reducible] noncomputable def acH (F:Nat):hx bz:=⟨[.p (.B 0),.p (.i .i64)],[.c 117 [.l 134,.M 1,.l 3],.m 9 3],[.p (.R 2)],[.c 117 [.l 134,.M 1,.l 3],.m 9 3,.r 136 false],List J.Field,
  fun d=>rF F ⟨d.2.1.1,d.2.2.1,d.2.1.2.2.1⟩ d.1.2.1,fun d r=>(((),()),((d.2.1.1,(),d.2.1.2.2.1,()),d.2.2.1,r,()))⟩
@[reducible] noncomputable def acI (F:Nat):hx bz:=⟨[.p (.B 0),.p (.i .i64)],[.c 117 [.l 134,.M 1,.l 3],.m 9 3],[.p (.R 2),.p (.R 3)],[.c 117 [.l 134,.M 1,.l 3],.m 9 3,.r 9 false,.r 166 false],List (List UInt8) × List J.Target,
  fun d=>Af F ⟨d.2.1.1,d.2.2.1,d.2.1.2.2.1⟩ d.1.2.1,fun d r=>(((),(),()),((d.2.1.1,(),d.2.1.2.2.1,()),d.2.2.1,r.1,r.2,()))⟩
noncomputable def IK (F:Nat):cU aH:=⟨(83,(acH F).run aH)::(82,(acI F).run aH)::ajX.ce,[]⟩
end Go.Proofs.YteeliipnilghaaaGreat
namespace Go.Proofs.YteeliipnilghaaaGreat
open Go Go.RowKit au
set_option maxHeartbeats 4000000
set_option maxRecDepth 20000
theorem YV {W:World} {X:List Nat} {F:Nat} {aP:J.bj} {dh:Int} {r:List Int} {fy:Nat} {fH:hY} {gQ:Nat} {hz:Nat} {gE:hY} {g_:Nat} {M0:List Nat} (hm:bs W M0 X W [] [bB.ik fy [.q fH gQ aP.l,.map (some hz),.q gE g_ aP.dj],ck J.jC fH gQ aP.l,bB.map lM (Value.int .i64) hz aP.b2,ck (e3 .i64) gE g_ aP.dj]) (h:J.pY F aP dh=some r) :
 Calls Tryz.prog 114 [.c6 fy,.i dh].toArray W (fun e w'=>∃ XR:Option Addr,∃ YL:Nat,∃ ajw:List Value,e= .returned (.q XR YL r)/\bs W M0 X w' [a7.row 3 1 (.q XR YL r) r ajw] [bB.rows (e3 .i64) ajw r]):=by
 refine enter Tryz.func114 rfl Tryz.ntmps114 rfl fun a af=>?_;rw [J.pY] at h;refine oi [] [] af fun a af=>oi [] [(5,.slice none 0 0)] af fun a af=>wp_seq_k fun K pJ=>?_;have hm:=hm.Gw (α:=Int) 3 1;have hm:=hm.more (y:=bB.rows (e3 .i64) [] []) rfl;obtain ⟨Sw,h,RE⟩:=J.fx h
 refine Ji (fun a w=>∃ (Eg:hY) (EO:Nat) (tN:Bz) (NB:m8),Fr ⟨20,[]⟩ [(5,.q Eg EO tN)] a/\bs W M0 X w [a7.row 3 1 (.q Eg EO tN) tN NB] [bB.rows (e3 .i64) NB tN,bB.ik fy [.q fH gQ aP.l,.map (some hz),.q gE g_ aP.dj],ck J.jC fH gQ aP.l,bB.map lM (Value.int .i64) hz aP.b2,ck (e3 .i64) gE g_ aP.dj]/\Sw=tN) (fun K s5=>?_) ?_
 · clear RE;refine O8 (fun (bL:Nat) a w=>∃ (Bu:hY) (BW:Nat) (oC:Bz) (Ir:m8) (lQ:Int),Fr ⟨20,[]⟩ [(0,.c6 fy),(1,.i lQ),(5,.q Bu BW oC)] a/\bs W M0 X w [a7.row 3 1 (.q Bu BW oC) oC Ir] [bB.rows (e3 .i64) Ir oC,bB.ik fy [.q fH gQ aP.l,.map (some hz),.q gE g_ aP.dj],ck J.jC fH gQ aP.l,bB.map lM (Value.int .i64) hz aP.b2,ck (e3 .i64) gE g_ aP.dj]/\J.pZ aP bL oC lQ=some Sw) F ⟨none,0,[],[],dh,af.cut,hm,h⟩ ?_ ?_
   · rintro a w ⟨Bu,BW,oC,Ir,lQ,af,hm,h⟩;exact absurd h (by simp [J.pZ])
   rintro bL a w ⟨Bu,BW,oC,Ir,lQ,af,hm,h⟩ K pK;rw [J.pZ] at h;refine wp_seq_k fun K Fg=>oi [] [(7,.bool (decide (0 <=lQ)))] af fun a af=>Jk (af.g rfl) h (fun asA h=>?_) (fun asA h=>?_)
   · refine wp_skip <| Fg _ _ <| wp_seq_k fun K Fi=>wp_block <| nd <| j' 2 [] [(15,.q Bu BW oC),(16,.i lQ)] af fun a af=>adP (cs:=[.i lQ]) wn (Bq (vs:=[(0,.i lQ)]) Tryz.underlying22 Tryz.sizeOf3 Tryz.zeroValue3 rfl rfl rfl ⟨⟨(af.g rfl),rfl⟩,trivial⟩ (by kernel_rfl)) af hm rfl rfl fun a aGO w _ af hm=>?_;obtain ⟨F_,ato,h⟩:=J.fx h;refine Hc (T:=(e3 .i64)) (ml:=[lQ]) 1 0 0 hm rfl rfl rfl Tryz.underlying22 auL rfl rfl ato rfl rfl ⟨_,_,rfl,rfl,rfl⟩ wn rfl (af.g rfl) (af.g rfl) af rfl rfl fun a XQ YK aFD w af hm=>?_
     refine j' 1 [] [(5,.q XQ YK F_)] af fun a af=>wpList_nil (Fi _ _ ?_);refine nd <| q1 5 [0,2] [(11,.q gE g_ aP.dj),(12,.i lQ)] [fy,2] (gJ (hm.d 2 rfl).2.2 ga) af fun a af=>?_;obtain ⟨nX,aum,h⟩:=J.fx h;obtain ⟨arT,atc,_,rfl,asH⟩:=AH _ (hm.d 5 rfl) aum;refine nT wn (n1 Tryz.underlying22 Tryz.sizeOf3 rfl (af.g rfl) (af.g rfl) arT atc) af rfl rfl fun a af=>q1 2 [0,0] [(1,.i nX)] [dk gE,gg gE+(lQ).toNat* 1] (gJ asH ga) af fun a af=>wpList_nil ?_;exact pK _ _ ⟨XQ,YK,F_,aFD,nX,af.cut,hm.hl [0,2,3,4,5],h⟩
   refine wp_exit <| qI (qI (D9 ?_));exact s5 _ _ ⟨Bu,BW,oC,Ir,af.cut,hm,(os h)⟩
 rintro a w ⟨Eg,EO,tN,NB,af,hm,aI⟩;subst Sw;have h:=RE;clear RE;refine pJ _ _ <| Ht [] [(4,.q Eg EO tN)] af fun a af=>wp_ret ?_;obtain rfl:=cX h;refine GZ Tryz.results114 af rfl ?_;exact ⟨Eg,EO,NB,rfl,hm.r5 [0] [0]⟩
theorem YW {W:World} {X:List Nat} {s_:List Int} {r:Unit} {m5:hY} {pv:Nat} {M0:List Nat} (hm:bs W M0 X W [] [ck (e3 .i64) m5 pv s_]) (h:J.Hh s_=some r) :
 Calls Tryz.prog 116 [.q m5 pv s_].toArray W (fun e w'=>∃ g:Nat,e= .returned (.func (.func 144) #[] #[.c6 g])/\bs W M0 X w' [a7.dU g 22 [.q m5 pv s_]] []):=by
 refine enter Tryz.func116 rfl Tryz.ntmps116 rfl fun a af=>?_;clear h;refine wp_seq_k fun K s3=>nd <| w9 (cs:=[.q m5 pv s_]) wn (NI rfl rfl (af.g rfl)) af hm rfl rfl fun a aa2 w _ af hm=>j' 1 [] [] af fun a af=>wpList_nil (s3 _ _ ?_);refine Ht [] [(2,.func (.func 144) #[] #[.c6 aa2])] af fun a af=>wp_ret <| GZ Tryz.results116 af rfl ?_;exact ⟨aa2,rfl,hm.r5 [0] []⟩
theorem YT:X7 Tryz.prog 144 :=by
 intro m7 iZ A c fj L w0 ao hy aQ
 refine aqq (vs:=[.func (.yield L) #[] #[],.c6 fj]) Tryz.func144 rfl Tryz.ntmps144 rfl (by rintro w ⟨⟨v,h⟩,_⟩;cases h) ?_
 intro a af
 obtain ⟨W,M0,X,E,hm⟩:=ao _ _ aQ
 have hlen:iZ.length<=maxLen:=by
  obtain ⟨cj,bH,ak,al,aV,_⟩:=(hm.d 1 rfl:(b4 (e3 .i64)).rd _ _ _ _)
  omega
 refine lY ?_
 intro K s3
 refine nW (by kernel_rfl) ?_
 refine g1 4 [0,1,3] [0,0] (fr':=[(0,.func (.yield L) #[] #[]),(1,.c6 fj),(3,.i (J.aA ((iZ.length:Int) - 1)))]) (L:=[fj,0]) pH (gJ (hm.d 0 rfl).2.2 ga) af (by kernel_rfl) ?_
 intro a af
 rw [agA hlen] at af
 refine wpList_nil ?_
 refine s3 _ _ ?_
 refine V4 ?_
 refine agR (fun k a w=>∃ (rem:Bz),k=rem.length+ 1 /\(∃ pre,iZ=rem.reverse++pre)/\Fr ⟨19,[]⟩ [(0,.func (.yield L) #[] #[]),(1,.c6 fj),(3,.i ((rem.length:Int) - 1))] a/\m7 rem w) (iZ.length+ 1) ⟨iZ.reverse,by simp,⟨[],by simp⟩,by rw [List.length_reverse];exact af,aQ⟩ (by rintro a w ⟨rem,h,_⟩;omega) ?_
 rintro k a w ⟨rem,aj,⟨pre,FT⟩,af,zv⟩ K cG
 refine lY ?_
 intro aGw s4
 refine lY ?_
 intro aGx pJ
 refine nW (by kernel_rfl) ?_
 refine g1 2 [0,1,3,8] [] (fr':=[(0,.func (.yield L) #[] #[]),(1,.c6 fj),(3,.i ((rem.length:Int) - 1)),(8,.bool (decide (0 <=(rem.length:Int) - 1)))]) (L:=[]) pH ga af (by kernel_rfl) ?_
 intro a af
 refine wpList_nil ?_
 refine pJ _ _ ?_
 refine V6 (af.g rfl) (fun ag=>?_) (fun ag=>?_)
 · have ag:=of_decide_eq_true ag
   match rem,ag,FT,af,zv,aj with
   | x::rem,_,FT,af,zv,aj=>
   have ad:=auy FT
   have e:((x::rem).length:Int) - 1 =(rem.length:Int):=by simp
   rw [e] at af
   refine MO ?_
   refine s4 _ _ ?_
   refine lY ?_
   intro aGy s5
   refine V4 ?_
   refine lY ?_
   intro aGz pK
   refine aCF fun eE=>?_
   refine awF 6 (by kernel_rfl) ?_
   obtain ⟨W,M0,X,E,hm⟩:=ao _ _ zv
   refine g1 4 [0,1,3,11,12,13,14] [0,0] (fr':=[(0,.func (.yield L) #[] #[]),(1,.c6 fj),(3,.i (rem.length:Int)),(11,.func (.yield L) #[] #[]),(12,.i (rem.length:Int)),(13,.q A c iZ),(14,.i (rem.length:Int))]) (L:=[fj,0]) pH (gJ (hm.d 0 rfl).2.2 ga) af (by kernel_rfl) ?_
   intro a af
   obtain ⟨dl,hi,_,rfl,hc⟩:=AH _ (hm.d 1 rfl) ad
   refine nT wn (n1 Tryz.underlying22 Tryz.sizeOf3 rfl (af.g rfl) (af.g rfl) dl hi) af rfl rfl ?_
   intro a af
   refine g1 1 [0,1,3,11,12,16] [0,0] (fr':=[(0,.func (.yield L) #[] #[]),(1,.c6 fj),(3,.i (rem.length:Int)),(11,.func (.yield L) #[] #[]),(12,.i (rem.length:Int)),(16,.i x)]) (L:=[dk A,gg A+(rem.length:Int).toNat* 1]) pH (gJ hc ga) af (by kernel_rfl) ?_
   intro a af
   refine wpList_nil ?_
   refine aGg (vs:=[.i (rem.length:Int),.i x]) wn rfl (af.g rfl) ⟨af.g rfl,af.g rfl,trivial⟩ (hy x rem _ zv) af rfl rfl ?_
   rintro _ w ⟨rfl,zv⟩
   refine ⟨_,rfl,fun a af=>?_⟩
   refine K2 eE (by kernel_rfl) ?_
   refine g1 1 [0,1,3,18] [] (fr':=[(0,.func (.yield L) #[] #[]),(1,.c6 fj),(3,.i (rem.length:Int)),(18,.bool false)]) (L:=[]) pH ga af (by kernel_rfl) ?_
   intro a af
   refine wpList_nil ?_
   refine pK _ _ ?_
   refine aCE (af.g rfl) rfl ?_
   refine MO ?_
   refine s5 _ _ ?_
   refine nW (by kernel_rfl) ?_
   refine g1 3 [0,1,3] [] (fr':=[(0,.func (.yield L) #[] #[]),(1,.c6 fj),(3,.i (J.aA ((rem.length:Int) - 1)))]) (L:=[]) pH ga af (by kernel_rfl) ?_
   intro a af
   have hle:rem.length<=maxLen:=by
    have:=congrArg List.length FT
    simp at this
    omega
   rw [agA hle] at af
   refine wpList_nil ?_
   exact cG _ _ ⟨rem,by simpa using aj,⟨x::pre,by rw [FT];simp⟩,af,zv⟩
 · have ag:=of_decide_eq_false ag
   have aE:rem= []:=by
    cases rem with
    | nil=>rfl
    | cons x r=>exact absurd ag (by simp)
   subst aE
   refine V7 ?_
   refine qI ?_
   refine qI ?_
   refine D9 ?_
   refine an6 ?_
   refine aAf Tryz.results144 af ?_
   exact ⟨⟨_,rfl⟩,zv⟩
theorem aoA {W:World} {X:List Nat} {F:Nat} {aP:J.bj} {dh:Int} {r:List J.Field} {fy:Nat} {fH:hY} {gQ:Nat} {hz:Nat} {gE:hY} {g_:Nat} {M0:List Nat} (hm:bs W M0 X W [] [bB.ik fy [.q fH gQ aP.l,.map (some hz),.q gE g_ aP.dj],ck J.jC fH gQ aP.l,bB.map lM (Value.int .i64) hz aP.b2,ck (e3 .i64) gE g_ aP.dj]) (h:J.rF F aP dh=some r) :
 Calls Tryz.prog 83 [.c6 fy,.i dh].toArray W (fun e w'=>∃ XX:Option Addr,∃ YR:Nat,∃ ajv:List Value,e= .returned (.q XX YR r)/\bs W M0 X w' [a7.row 136 3 (.q XX YR r) r ajv] [bB.rows J.iE ajv r]):=by
 refine ZY Tryz.func83 rfl Tryz.ntmps83 rfl fun a af=>?_;rw [J.rF] at h;refine wp_seq_k fun K s3=>nd <| w9 (cs:=[.c6 fy]) wn (NI rfl rfl (af.g rfl)) af hm rfl rfl fun a lA w _ af hm=>j' 1 [] [] af fun a af=>wpList_nil (s3 _ _ ?_);refine wp_seq_k fun K s4=>nd <| w9 (cs:=[.slice none 0 0]) wn (yj Tryz.zeroValue124 rfl rfl) af hm rfl rfl fun a hb w _ af hm=>wpList_nil <| s4 _ _ <| wp_seq_k fun K pJ=>wp_seq_k fun K s5=>nd ?_
 refine q1 2 [0,0] [(8,.c6 fy),(9,.i dh)] [lA,0] (gJ (j_ (hm.e 1 rfl)) ga) af fun a af=>?_;obtain ⟨uy,atU,h⟩:=J.fx h;have hc:=hm;refine Hd (vs:=[.c6 fy,.i dh]) wn rfl Tryz.call114 ⟨(af.g rfl),(af.g rfl),trivial⟩ (YV ((hc.into 0).pick ⟨⟨0,rfl⟩,⟨1,rfl⟩,⟨2,rfl⟩,⟨3,rfl⟩,trivial⟩) atU) af rfl rfl ?_;rintro _ w ⟨IC,I',aHI,rfl,aJ⟩;refine ⟨_,rfl,fun a af=>?_⟩;have hm:=hc.back 0 aJ;clear aJ hc;obtain ⟨UW,atW,h⟩:=J.fx h;have hc:=hm;have aq:=hc.freeze 0 0 rfl rfl
 refine Hd (vs:=[.q IC I' uy]) wn rfl Tryz.call116 ⟨(af.g rfl),trivial⟩ (YW ((aq.into 0).pick ⟨⟨0,rfl⟩,trivial⟩) atW) af rfl rfl ?_;rintro _ w ⟨aa1,rfl,aJ⟩;refine ⟨_,rfl,fun a af=>?_⟩;have ah:bp [] _ w:=aJ.bV;have hm:=hc.fX 0 (by exact trivial) aJ;clear aJ hc aq;clear ah;refine wpList_nil ?_;have af:=af.cut (l':=[(2,.c6 lA),(5,.c6 hb),(11,.func (.func 144) #[] #[.c6 aa1])]);refine s5 _ _ <| wp_block ?_;have hm:=hm.freeze 1 0 rfl rfl;have hm:=hm.aaW 0 rfl;have hm:=hm.Gw (α:=J.Field) 136 3
 have hm:=hm.more (y:=bB.rows J.iE [] []) rfl;obtain ⟨auZ,RL,h⟩:=J.fx h
 refine YS (c:=I') (A:=IC) (β:=(Option Addr) × (Nat) × (List J.Field) × (List Value)) (l1:=fun _ xT=>[(2,.c6 lA),(5,.c6 hb),(7,.i xT)]) (fun ((sr,sP,kp,Bo):(Option Addr) × (Nat) × (List J.Field) × (List Value))=>[a7.row 136 3 (.q sr sP kp) kp Bo,a7.dU hb 124 [.q sr sP kp],a7.dU lA 113 [.c6 fy]]) (fun ((sr,sP,kp,Bo):(Option Addr) × (Nat) × (List J.Field) × (List Value))=>[bB.rows J.iE Bo kp,bB.ik aa1 [.q IC I' uy],ck (e3 .i64) IC I' uy,bB.ik fy [.q fH gQ aP.l,.map (some hz),.q gE g_ aP.dj],ck J.jC fH gQ aP.l,bB.map lM (Value.int .i64) hz aP.b2,ck (e3 .i64) gE g_ aP.dj]) (fun (Ma:Bz) ((sr,sP,kp,Bo):(Option Addr) × (Nat) × (List J.Field) × (List Value))=>J.wD aP Ma kp=some auZ) uy (none,0,[],[]) 1 2 YT Tryz.call144 af rfl rfl rfl (hm.hl [0,1,2,4,5,6,7]) RL (fun b=>by obtain ⟨_,_,_,_⟩:=b;rfl) (fun b=>by obtain ⟨_,_,_,_⟩:=b;rfl) ?_ ?_ ?_
 · clear h RL hm af;intro L auv xT w a K af cG;refine nW (by kernel_rfl) <| j' 1 [] [(7,.i xT)] af fun a af=>wpList_nil ?_;exact cG _ af.cut
 · clear h RL hm af;intro L dC gX bG dc b auv xT Ma w a K h af hm cG;obtain ⟨sr,sP,kp,Bo⟩:=b;dsimp only at h hm;rw [J.wD] at h;refine V4 <| agQ (m:=11) 9 (bp []) (by kernel_rfl) rfl (by kernel_rfl) fun w ah=>?_;have hm:=hm.eT ah;clear ah;have dD:=hm;have ch:=bp.refl [] w;refine dY [0,1,2,3,4,5] 6 [0,0,1,0,2,0] [(14,.q sr sP kp),(18,.q fH gQ aP.l),(19,.i xT)] [fy,0,lA,0,hb,0] (fun er ah=>(gJ (Cc ah (j_ (dD.e 3 rfl))) (gJ (Cc ah (j_ (dD.e 4 rfl))) (gJ (Cc ah (dD.d 3 rfl).2.2) ga)))) af ch fun a af=>?_;obtain ⟨yd,auo,h⟩:=J.fx h
   obtain ⟨arW,atf,_,⟨NY,O4,XS,YP,rfl,abF,abG⟩,asK⟩:=AH _ (dD.d 4 rfl) auo;have dD:=dD.more (y:=ck J.iE NY O4 yd.Fields) abF;have hm:=hm.more (y:=ck J.iE NY O4 yd.Fields) abF;have dD:=dD.more (y:=ck J.oZ XS YP yd.bc) abG;have hm:=hm.more (y:=ck J.oZ XS YP yd.bc) abG;refine an1 6 rfl (by kernel_rfl) wn (fun er=>n1 Tryz.underlying25 Tryz.sizeOf134 rfl (af.g rfl) (af.g rfl) arW atf) ch af rfl rfl fun a af=>?_
   refine dY [7,8] 2 [0,2] [(22,.q NY O4 yd.Fields)] [dk fH,gg fH+(xT).toNat* 4 + 2] (fun er ah=>(gJ (Cc ah asK) ga)) af ch fun a af=>lu 9 rfl (by kernel_rfl) (fun _=>ch) ?_;obtain ⟨KX,atr,h⟩:=J.fx h;refine aBB (T:=J.iE) 2 2 1 hm rfl rfl rfl Tryz.underlying124 auK rfl rfl atr rfl wn rfl (af.g rfl) (af.g rfl) af rfl rfl fun a XW YQ aFG w af hm=>jp ?_;clear dD ch;have dD:=hm;have ch:=bp.refl [] w;refine e9.next 10 (bp [] w) (by kernel_rfl) <| lu 10 rfl (by kernel_rfl) (fun _=>ch) ?_
   refine uE (vs:=[.q XW YQ KX]) 3 hm rfl wn rfl Tryz.sizeOf124 rfl rfl rfl rfl (af.g rfl) (af.g rfl) rfl fun w hm=>jp ?_;clear dD ch;have dD:=hm;have ch:=bp.refl [] w;refine e9.next 11 (bp [] w) (by kernel_rfl) <| I5 (by kernel_rfl) ?_ (fun _=>ch);clear dD ch;have af:=af.cut (l':=[]);exact cG (XW,YQ,KX,aFG) _ _ h (hm.hl [0,4,5,6,7,8,9])
 clear hm af;intro aGS b a w RM af hm;obtain ⟨sr,sP,kp,Bo⟩:=b;dsimp only at RM hm;rw [J.wD] at RM;obtain rfl:=cX RM;have af:=af.cut (l':=[(5,.c6 hb)]);refine pJ _ _ <| wp_seq_k fun K pK=>rg [0,0] [(4,.q sr sP kp)] [hb,0] (gJ (j_ (hm.e 2 rfl)) ga) af fun a af=>pK _ _ <| wp_ret ?_;obtain rfl:=cX h;refine awT 0 Tryz.results83 af hm rfl rfl fun w hm=>?_;exact ⟨sr,sP,Bo,rfl,hm.r5 [1] [0]⟩
end Go.Proofs.YteeliipnilghaaaGreat
namespace Go.Proofs.YteeliipnilghaaaGreat
open Go Go.RowKit au
set_option maxHeartbeats 4000000
set_option maxRecDepth 20000
theorem aoD {W:World} {X:List Nat} {F:Nat} {s_:List (List UInt8)} {aG:List UInt8} {r:Int} {m5:hY} {pv:Nat} {M0:List Nat} (hm:bs W M0 X W [] [ck iD m5 pv s_]) (h:J.Hs F s_ aG=some r) :
 Calls Tryz.prog 117 [.q m5 pv s_,cl aG].toArray W (fun e w'=>e= .returned (.i r)/\bs W M0 X w' [] []):=by
 refine enter Tryz.func117 rfl Tryz.ntmps117 rfl fun a af=>?_;rw [J.Hs] at h;refine oi [] [] af fun a af=>wp_seq_k fun K s4=>oi [] [(7,.i (s_.length:Int)),(8,.i 0)] af fun a af=>?_;obtain ⟨Sx,h,RF⟩:=J.aBF h;refine Ji (fun a w=>Fr ⟨19,[]⟩ [] a/\bs W M0 X w [] [ck iD m5 pv s_]/\Sx=(.go ())) (fun K s5=>?_) ?_
 · refine O8 (fun (bL:Nat) a w=>∃ (hh:Int),Fr ⟨19,[]⟩ [(0,.q m5 pv s_),(1,cl aG),(7,.i (s_.length:Int)),(8,.i hh)] a/\bs W M0 X w [] [ck iD m5 pv s_]/\J.xx s_ aG bL hh=some Sx) F ⟨0,af.cut,hm,h⟩ ?_ ?_
   · rintro a w ⟨hh,af,hm,h⟩;exact absurd h (by simp [J.xx])
   rintro bL a w ⟨hh,af,hm,h⟩ K pK;rw [J.xx] at h;refine oi [] [(9,.bool (decide (hh <(s_.length:Int))))] af fun a af=>wp_seq_k fun K Fh=>Jk (af.g rfl) h (fun asB h=>?_) (fun asB h=>?_)
   · refine wp_skip <| Fh _ _ <| wp_seq_k fun K Fi=>wp_block <| oi [] [(5,.i hh)] af fun a af=>wp_seq_k fun K Ff=>nd <| j' 3 [] [(11,cl aG),(12,.q m5 pv s_),(13,.i hh)] af fun a af=>?_;obtain ⟨Bf,aun,h⟩:=J.fx h;obtain ⟨arU,atd,_,rfl,asI⟩:=AH _ (hm.d 0 rfl) aun;refine nT wn (n1 Tryz.underlying120 Tryz.sizeOf9 rfl (af.g rfl) (af.g rfl) arU atd) af rfl rfl fun a af=>q1 2 [0,0] [(16,.bool (decide (aG=Bf)))] [dk m5,gg m5+(hh).toNat* 1] (gJ asI ga) af fun a af=>wpList_nil (Ff _ _ ?_);refine Jk (af.g rfl) h (fun asC h=>?_) (fun asC h=>?_)
     · refine Ht [] [(4,.i hh)] af fun a af=>wp_ret ?_;obtain rfl:=cX h;obtain rfl:=cX RF;refine ajs (Nz (Nz (ajs (Nz (Nz ?_)))));refine GZ Tryz.results117 af rfl ?_;exact ⟨rfl,hm.r5 [] []⟩
     refine wp_skip <| Fi _ _ <| Zk [] [(8,.i (J.aA (hh+ 1)))] af fun a af=>?_;exact pK _ _ ⟨J.aA (hh+ 1),af.cut,hm,h⟩
   refine wp_exit <| qI (qI (D9 ?_));exact s5 _ _ ⟨af.cut,hm,(os h)⟩
 rintro a w ⟨af,hm,aI⟩;subst Sx;have h:=RF;clear RF;dsimp only [J.Y5] at h;refine s4 _ _ <| Ht [] [(4,.i (-1))] af fun a af=>wp_ret ?_;obtain rfl:=cX h;refine GZ Tryz.results117 af rfl ?_;exact ⟨rfl,hm.r5 [] []⟩
theorem aoB {W:World} {X:List Nat} {F:Nat} {aP:J.bj} {dh:Int} {r:(List (List UInt8)) × (List J.Target)} {fy:Nat} {fH:hY} {gQ:Nat} {hz:Nat} {gE:hY} {g_:Nat} {M0:List Nat} (hm:bs W M0 X W [] [bB.ik fy [.q fH gQ aP.l,.map (some hz),.q gE g_ aP.dj],ck J.jC fH gQ aP.l,bB.map lM (Value.int .i64) hz aP.b2,ck (e3 .i64) gE g_ aP.dj]) (h:J.Af F aP dh=some r) :
 Calls Tryz.prog 82 [.c6 fy,.i dh].toArray W (fun e w'=>∃ XU:Option Addr,∃ YN:Nat,∃ ajx:List Value,∃ XV:Option Addr,∃ YO:Nat,∃ ajy:List Value,e= .returned (.tuple #[.q XU YN r.1,.q XV YO r.2])/\bs W M0 X w' [a7.row 9 1 (.q XU YN r.1) r.1 ajx,a7.row 166 2 (.q XV YO r.2) r.2 ajy] [bB.rows iD ajx r.1,bB.rows J.jD ajy r.2]):=by
 refine ZY Tryz.func82 rfl Tryz.ntmps82 rfl fun a af=>?_;rw [J.Af] at h;refine wp_seq_k fun K s3=>nd <| w9 (cs:=[.c6 fy]) wn (NI rfl rfl (af.g rfl)) af hm rfl rfl fun a lA w _ af hm=>j' 2 [] [] af fun a af=>wpList_nil (s3 _ _ ?_);refine wp_seq_k fun K s4=>nd <| w9 (cs:=[.slice none 0 0]) wn (yj Tryz.zeroValue120 rfl rfl) af hm rfl rfl fun a hb w _ af hm=>wpList_nil <| s4 _ _ <| wp_seq_k fun K pJ=>nd <| w9 (cs:=[.slice none 0 0]) wn (yj Tryz.zeroValue121 rfl rfl) af hm rfl rfl fun a jN w _ af hm=>wpList_nil ?_
 refine pJ _ _ <| wp_seq_k fun K s5=>wp_seq_k fun K pK=>nd <| q1 2 [0,0] [(14,.c6 fy),(15,.i dh)] [lA,0] (gJ (j_ (hm.e 2 rfl)) ga) af fun a af=>?_;obtain ⟨iw,atV,h⟩:=J.fx h;have hc:=hm;refine Hd (vs:=[.c6 fy,.i dh]) wn rfl Tryz.call114 ⟨(af.g rfl),(af.g rfl),trivial⟩ (YV ((hc.into 0).pick ⟨⟨0,rfl⟩,⟨1,rfl⟩,⟨2,rfl⟩,⟨3,rfl⟩,trivial⟩) atV) af rfl rfl ?_;rintro _ w ⟨n5,oc,aHJ,rfl,aJ⟩;refine ⟨_,rfl,fun a af=>?_⟩;have hm:=hc.back 0 aJ;clear aJ hc;obtain ⟨ho,atX,h⟩:=J.fx h;have hc:=hm
 have aq:=hc.freeze 0 0 rfl rfl;refine Hd (vs:=[.q n5 oc iw]) wn rfl Tryz.call116 ⟨(af.g rfl),trivial⟩ (YW ((aq.into 0).pick ⟨⟨0,rfl⟩,trivial⟩) atX) af rfl rfl ?_;rintro _ w ⟨Ci,rfl,aJ⟩;refine ⟨_,rfl,fun a af=>?_⟩;have ah:bp [] _ w:=aJ.bV;have hm:=hc.fX 0 (by exact trivial) aJ;clear aJ hc aq;clear ah;refine wpList_nil ?_;have af:=af.cut (l':=[(2,.c6 lA),(6,.c6 hb),(7,.c6 jN),(17,.func (.func 144) #[] #[.c6 Ci])]);refine pK _ _ <| wp_block ?_;have hm:=hm.freeze 1 0 rfl rfl
 have hm:=hm.aaW 0 rfl;have hm:=hm.Gw (α:=J.Target) 166 2;have hm:=hm.more (y:=bB.rows J.jD [] []) rfl;have hm:=hm.Gw (α:=List UInt8) 9 1;have hm:=hm.more (y:=bB.rows iD [] []) rfl;obtain ⟨auY,RJ,h⟩:=J.fx h
 refine YS (c:=oc) (A:=n5) (β:=(Option Addr) × (Nat) × (List (List UInt8)) × (List Value) × (Option Addr) × (Nat) × (List J.Target) × (List Value)) (l1:=fun _ eQ=>[(2,.c6 lA),(6,.c6 hb),(7,.c6 jN),(9,.i eQ)]) (fun ((ss,sQ,kq,yh,st,sR,kr,yi):(Option Addr) × (Nat) × (List (List UInt8)) × (List Value) × (Option Addr) × (Nat) × (List J.Target) × (List Value))=>[a7.row 9 1 (.q ss sQ kq) kq yh,a7.row 166 2 (.q st sR kr) kr yi,a7.dU jN 121 [.q st sR kr],a7.dU hb 120 [.q ss sQ kq],a7.dU lA 113 [.c6 fy]]) (fun ((ss,sQ,kq,yh,st,sR,kr,yi):(Option Addr) × (Nat) × (List (List UInt8)) × (List Value) × (Option Addr) × (Nat) × (List J.Target) × (List Value))=>[bB.rows iD yh kq,bB.rows J.jD yi kr,bB.ik Ci [.q n5 oc iw],ck (e3 .i64) n5 oc iw,bB.ik fy [.q fH gQ aP.l,.map (some hz),.q gE g_ aP.dj],ck J.jC fH gQ aP.l,bB.map lM (Value.int .i64) hz aP.b2,ck (e3 .i64) gE g_ aP.dj]) (fun (Mb:Bz) ((ss,sQ,kq,yh,st,sR,kr,yi):(Option Addr) × (Nat) × (List (List UInt8)) × (List Value) × (Option Addr) × (Nat) × (List J.Target) × (List Value))=>J.wI F aP Mb kq kr=some auY) iw (none,0,[],[],none,0,[],[]) 2 3 YT Tryz.call144 af rfl rfl rfl (hm.hl [0,0,2,3,5,6,7,8]) RJ (fun b=>by obtain ⟨_,_,_,_,_,_,_,_⟩:=b;rfl) (fun b=>by obtain ⟨_,_,_,_,_,_,_,_⟩:=b;rfl) ?_ ?_ ?_
 · clear h RJ hm af;intro L auw eQ w a K af cG;refine nW (by kernel_rfl) <| j' 1 [] [(9,.i eQ)] af fun a af=>wpList_nil ?_;exact cG _ af.cut
 · clear h RJ hm af;intro L dC gX bG dc b auw eQ Mb w a K h af hm cG;obtain ⟨ss,sQ,kq,yh,st,sR,kr,yi⟩:=b;dsimp only at h hm;rw [J.wI] at h;obtain ⟨acA,h,RG⟩:=J.fx h
   refine V5 (fun a w=>∃ (ID:hY) (Ja:Nat) (tT:List (List UInt8)) (NC:m8) (IE:hY) (Jb:Nat) (tU:List J.Target) (ND:m8),Fr ⟨59,[]⟩ [] a/\bs W M0 X w [a7.obj dC gX,a7.obj bG dc,a7.row 9 1 (.q ID Ja tT) tT NC,a7.row 166 2 (.q IE Jb tU) tU ND,a7.dU jN 121 [.q IE Jb tU],a7.dU hb 120 [.q ID Ja tT],a7.dU lA 113 [.c6 fy]] [bB.rows iD NC tT,bB.rows J.jD ND tU,bB.ik Ci [.q n5 oc iw],ck (e3 .i64) n5 oc iw,bB.ik fy [.q fH gQ aP.l,.map (some hz),.q gE g_ aP.dj],ck J.jC fH gQ aP.l,bB.map lM (Value.int .i64) hz aP.b2,ck (e3 .i64) gE g_ aP.dj]/\acA=(tT,tU)) (fun K Fg=>?_) ?_
   · clear RG;refine lY fun K Fh=>nW (by kernel_rfl) <| q1 5 [0,0,1,0] [(23,.q fH gQ aP.l),(24,.i eQ)] [fy,0,lA,0] (gJ (j_ (hm.e 6 rfl)) (gJ (hm.d 4 rfl).2.2 ga)) af fun a af=>?_;obtain ⟨ft,aup,h⟩:=J.fx h;obtain ⟨arV,ate,_,⟨IF,Jc,ma,od,rfl,asR,asS⟩,asJ⟩:=AH _ (hm.d 5 rfl) aup;have hm:=hm.more (y:=ck J.iE IF Jc ft.Fields) asR;have hm:=hm.more (y:=ck J.oZ ma od ft.bc) asS;refine nT wn (n1 Tryz.underlying25 Tryz.sizeOf134 rfl (af.g rfl) (af.g rfl) arV ate) af rfl rfl fun a af=>?_
     refine q1 4 [0,3] [(27,.q ma od ft.bc),(28,.i (ft.bc.length:Int)),(29,.i 0)] [dk fH,gg fH+(eQ).toNat* 4 + 3] (gJ asJ ga) af fun a af=>wpList_nil (Fh _ _ ?_);obtain ⟨Sy,h,RH⟩:=J.fx h
     refine V5 (fun a w=>∃ (IG:hY) (Jd:Nat) (tV:List (List UInt8)) (NE:m8) (IH:hY) (Jf:Nat) (tW:List J.Target) (NF:m8),Fr ⟨59,[]⟩ [] a/\bs W M0 X w [a7.obj dC gX,a7.obj bG dc,a7.row 9 1 (.q IG Jd tV) tV NE,a7.row 166 2 (.q IH Jf tW) tW NF,a7.dU jN 121 [.q IH Jf tW],a7.dU hb 120 [.q IG Jd tV],a7.dU lA 113 [.c6 fy]] [bB.rows iD NE tV,bB.rows J.jD NF tW,ck J.oZ ma od ft.bc,ck J.iE IF Jc ft.Fields,bB.ik Ci [.q n5 oc iw],ck (e3 .i64) n5 oc iw,bB.ik fy [.q fH gQ aP.l,.map (some hz),.q gE g_ aP.dj],ck J.jC fH gQ aP.l,bB.map lM (Value.int .i64) hz aP.b2,ck (e3 .i64) gE g_ aP.dj]/\Sy=(tV,tW)) (fun K Fi=>?_) ?_
     · clear RH
       refine agR (fun (ew:Nat) a w=>∃ (o_:hY) (pw:Nat) (jx:List (List UInt8)) (D':m8) (u9:hY) (vG:Nat) (lN:List J.Target) (Is:m8) (eN:Int),Fr ⟨59,[]⟩ [(6,.c6 hb),(7,.c6 jN),(9,.i eQ),(27,.q ma od ft.bc),(28,.i (ft.bc.length:Int)),(29,.i eN)] a/\bs W M0 X w [a7.obj dC gX,a7.obj bG dc,a7.row 9 1 (.q o_ pw jx) jx D',a7.row 166 2 (.q u9 vG lN) lN Is,a7.dU jN 121 [.q u9 vG lN],a7.dU hb 120 [.q o_ pw jx],a7.dU lA 113 [.c6 fy]] [bB.rows iD D' jx,bB.rows J.jD Is lN,ck J.oZ ma od ft.bc,ck J.iE IF Jc ft.Fields,bB.ik Ci [.q n5 oc iw],ck (e3 .i64) n5 oc iw,bB.ik fy [.q fH gQ aP.l,.map (some hz),.q gE g_ aP.dj],ck J.jC fH gQ aP.l,bB.map lM (Value.int .i64) hz aP.b2,ck (e3 .i64) gE g_ aP.dj]/\J.wJ F eQ ft ew jx lN eN=some Sy) F ⟨ss,sQ,kq,yh,st,sR,kr,yi,0,af.cut,hm.hl [2,3,0,1,4,5,6,7,8,9],h⟩ ?_ ?_
       · rintro a w ⟨o_,pw,jx,D',u9,vG,lN,Is,eN,af,hm,h⟩;exact absurd h (by simp [J.wJ])
       rintro ew a w ⟨o_,pw,jx,D',u9,vG,lN,Is,eN,af,hm,h⟩ K Rf;rw [J.wJ] at h;refine lY fun K Ff=>nW (by kernel_rfl) <| j' 1 [] [(30,.bool (decide (eN <(ft.bc.length:Int))))] af fun a af=>wpList_nil (Ff _ _ ?_);refine lY fun K ar6=>V6 (af.g rfl) (fun Rk=>?_) (fun Rk=>?_)
       · have h:=J.Pd Rk h;refine MO <| ar6 _ _ <| lY fun K ar7=>?_;obtain ⟨acB,h,RI⟩:=J.fx h
         refine V5 (fun a w=>∃ (II:hY) (Jg:Nat) (tX:List (List UInt8)) (NG:m8) (IJ:hY) (Jh:Nat) (tY:List J.Target) (NH:m8),Fr ⟨59,[]⟩ [(6,.c6 hb),(7,.c6 jN),(9,.i eQ),(27,.q ma od ft.bc),(28,.i (ft.bc.length:Int)),(29,.i eN)] a/\bs W M0 X w [a7.obj dC gX,a7.obj bG dc,a7.row 9 1 (.q II Jg tX) tX NG,a7.row 166 2 (.q IJ Jh tY) tY NH,a7.dU jN 121 [.q IJ Jh tY],a7.dU hb 120 [.q II Jg tX],a7.dU lA 113 [.c6 fy]] [bB.rows iD NG tX,bB.rows J.jD NH tY,ck J.oZ ma od ft.bc,ck J.iE IF Jc ft.Fields,bB.ik Ci [.q n5 oc iw],ck (e3 .i64) n5 oc iw,bB.ik fy [.q fH gQ aP.l,.map (some hz),.q gE g_ aP.dj],ck J.jC fH gQ aP.l,bB.map lM (Value.int .i64) hz aP.b2,ck (e3 .i64) gE g_ aP.dj]/\acB=(tX,tY)) (fun K Kc=>?_) ?_
         · clear RI;refine lY fun K ar8=>nW (by kernel_rfl) <| j' 1 [] [(31,.i eN)] af fun a af=>?_;obtain ⟨fu,auq,h⟩:=J.fx h;obtain ⟨arX,atg,_,⟨NZ,O5,N0,O6,rfl,asT,asU⟩,asL⟩:=AH _ (hm.d 2 rfl) auq;have hm:=hm.more (y:=ck J.AL NZ O5 fu.cw) asT;have hm:=hm.more (y:=ck J.AK N0 O6 fu.cz) asU;refine nT wn (n1 Tryz.underlying132 Tryz.sizeOf131 rfl (af.g rfl) (af.g rfl) arX atg) af rfl rfl fun a af=>?_
           refine q1 1 [0,0] [(33,.agg #[cl fu.Name,.bool fu.Static,.q NZ O5 fu.cw,.i fu.Returns.Kind,cl fu.Returns.ap,.i fu.g8,.i fu.g5,cl fu.Code,.q N0 O6 fu.cz])] [dk ma,gg ma+(eN).toNat* 9] (gJ asL ga) af fun a af=>w9 (cs:=[cl [],.bool false,.slice none 0 0,.i 0,cl [],.i 0,.i 0,cl [],.slice none 0 0]) wn (yj Tryz.zeroValue131 rfl rfl) af hm rfl rfl fun a Qg w _ af hm=>j' 1 [] [(10,.i eN)] af fun a af=>?_
           refine uE (vs:=[cl fu.Name,.bool fu.Static,.q NZ O5 fu.cw,.i fu.Returns.Kind,cl fu.Returns.ap,.i fu.g8,.i fu.g5,cl fu.Code,.q N0 O6 fu.cz]) 0 hm rfl wn rfl Tryz.sizeOf131 rfl rfl rfl rfl (af.g rfl) (af.g rfl) rfl fun w hm=>wpList_nil <| ar8 _ _ <| lY fun K ar9=>nW (by kernel_rfl) <| j' 2 [] [(34,.i eQ),(35,.i eN)] af fun a af=>?_
           refine nT wn (aFN (vs:=[(0,.i eQ),(1,.i eN)]) (cs:=[.i eQ,.i eN]) Tryz.zeroValue166 Tryz.underlying166 ayp rfl ⟨⟨(af.g rfl),rfl⟩,⟨(af.g rfl),rfl⟩,trivial⟩ (by kernel_rfl)) af rfl rfl fun a af=>w9 (cs:=[.i 0,.i 0]) wn (yj Tryz.zeroValue166 rfl rfl) af hm rfl rfl fun a Qh w _ af hm=>uE (vs:=[.i eQ,.i eN]) 0 hm rfl wn rfl Tryz.sizeOf166 rfl rfl rfl rfl (af.g rfl) (af.g rfl) rfl fun w hm=>wpList_nil ?_
           have af:=af.cut (l':=[(6,.c6 hb),(7,.c6 jN),(9,.i eQ),(11,.c6 Qg),(12,.c6 Qh),(27,.q ma od ft.bc),(28,.i (ft.bc.length:Int)),(29,.i eN)]);refine ar9 _ _ <| lY fun K ar_=>lY fun K ar'=>nW (by kernel_rfl) <| q1 3 [0,0,1,0] [(37,.q o_ pw jx),(39,cl fu.Name)] [Qg,0,hb,0] (gJ (j_ (hm.e 7 rfl)) (gJ (j_ (hm.e 1 rfl)) ga)) af fun a af=>?_;obtain ⟨AF,atY,h⟩:=J.fx h;have hc:=hm;have aq:=hc.freeze 4 2 rfl rfl
           refine Hd (vs:=[.q o_ pw jx,cl fu.Name]) wn rfl Tryz.call117 ⟨(af.g rfl),(af.g rfl),trivial⟩ (aoD ((aq.into 0).pick ⟨⟨0,rfl⟩,trivial⟩) atY) af rfl rfl ?_;rintro _ w ⟨rfl,aJ⟩;refine ⟨_,rfl,fun a af=>?_⟩;have ah:bp [] _ w:=aJ.bV;have hm:=hc.fX 0 (by exact trivial) aJ;clear aJ hc aq;clear ah;refine j' 1 [] [(13,.i AF)] af fun a af=>wpList_nil (ar' _ _ ?_);refine lY fun K asa=>nW (by kernel_rfl) <| j' 2 [] [(42,.bool (decide (0 <=AF)))] af fun a af=>wpList_nil (asa _ _ ?_);refine V6 (af.g rfl) (fun Rl=>?_) (fun Rl=>?_)
           · have h:=J.Pd Rl h;refine lY fun K asb=>nW (by kernel_rfl) <| q1 3 [0,0,1,0] [(43,.q u9 vG lN),(44,.i AF),(45,.agg #[.i eQ,.i eN])] [Qh,0,jN,0] (gJ (j_ (hm.e 6 rfl)) (gJ (j_ (hm.e 0 rfl)) ga)) af fun a af=>?_;obtain ⟨Xg,ach,h⟩:=J.fx h;obtain ⟨arY,ath,_,rfl,asM⟩:=aA_ (hm.e 5 rfl) (hm.d 3 rfl) ach;refine nT wn (n1 Tryz.underlying121 Tryz.sizeOf166 rfl (af.g rfl) (af.g rfl) arY ath) af rfl rfl fun a af=>?_;obtain ⟨SN,atp,h⟩:=J.fx h
             refine aBK (T:=J.jD) (d':=(⟨eQ,eN⟩:J.Target)) (vs:=[.i eQ,.i eN]) (cs0:=[.i Xg.ap,.i Xg.Method]) (kk:=0) 5 3 atp hm rfl rfl ach rfl asM wn rfl Tryz.sizeOf166 rfl rfl rfl rfl rfl (af.g rfl) (af.g rfl) rfl fun aFE w hlen ah hm=>?_;try unfold Value.q at hm;try unfold Value.q at af;rw [hlen] at hm;try rw [hlen] at af;clear hlen;clear ah;refine wpList_nil ?_;have af:=af.cut (l':=[(6,.c6 hb),(7,.c6 jN),(9,.i eQ),(27,.q ma od ft.bc),(28,.i (ft.bc.length:Int)),(29,.i eN)]);refine asb _ _ <| V7 <| qI (D9 ?_)
             exact Kc _ _ ⟨o_,pw,jx,D',u9,vG,SN,aFE,af.cut,hm.r5 [2,3,4,5,6,7,8] [3,0,5,6,7,8,9,10,11,12],(os h)⟩
           have h:=J.Pc Rl h;refine MO <| ar_ _ _ <| agQ (m:=11) 8 (bp (Value.q o_ pw jx).ownBlock.toList) (by kernel_rfl) rfl (by kernel_rfl) fun w ah=>?_;have hm:=hm.eT ah;clear ah;have dD:=hm;have ch:=bp.refl (Value.q o_ pw jx).ownBlock.toList w
           refine dY [0,1,2,5,6] 5 [0,0,1,0,2,0,3,0] [(47,.q o_ pw jx),(49,cl fu.Name),(52,.q u9 vG lN),(53,.agg #[.i eQ,.i eN])] [Qh,0,jN,0,Qg,0,hb,0] (fun er ah=>(gJ (JO ah (dD.LA 7 4 rfl rfl (by decide)) (EM (dD.e 7 rfl)) (j_ (dD.e 7 rfl))) (gJ (JO ah (dD.LA 1 4 rfl rfl (by decide)) (EM (dD.e 1 rfl)) (j_ (dD.e 1 rfl))) (gJ (JO ah (dD.LA 6 4 rfl rfl (by decide)) (EM (dD.e 6 rfl)) (j_ (dD.e 6 rfl))) (gJ (JO ah (dD.LA 0 4 rfl rfl (by decide)) (EM (dD.e 0 rfl)) (j_ (dD.e 0 rfl))) ga))))) af ch fun a af=>Yn 3 7 rfl rfl (by kernel_rfl) (fun _=>ch) ?_ ?_
           · refine Gx (cs:=[cl fu.Name]) wn (Bq (vs:=[(0,cl fu.Name)]) Tryz.underlying120 Tryz.sizeOf9 Tryz.zeroValue9 rfl rfl rfl ⟨⟨(af.g rfl),rfl⟩,trivial⟩ (by kernel_rfl)) af hm rfl rfl fun a arF w ah Fv af hm=>?_;have Fv:=Nat.le_trans ch.size Fv;have ch:=ch.trans ah (by simp);clear ah;refine jp <| Yn 4 7 rfl rfl (by kernel_rfl) (fun _=>ch) ?_ ?_
             · obtain ⟨KW,atq,h⟩:=J.fx h;refine Vu (T:=iD) (ml:=[fu.Name]) 5 0 2 hm rfl rfl rfl Tryz.underlying120 Sk rfl rfl atq rfl rfl ⟨_,_,rfl,rfl,rfl⟩ wn rfl (af.g rfl) (af.g rfl) af rfl rfl fun a XT YM aFF w ah af hm=>?_;have ch:=ch.trans ah (fun x ad=>.inl ad);clear ah;refine jp <| lu 7 rfl (by kernel_rfl) (fun _=>ch) <| Gx (cs:=[.i eQ,.i eN]) wn (Bq (vs:=[(0,.agg #[.i eQ,.i eN])]) Tryz.underlying121 Tryz.sizeOf166 Tryz.zeroValue166 rfl rfl rfl ⟨⟨(af.g rfl),rfl⟩,trivial⟩ (by kernel_rfl)) af hm rfl rfl fun a aGQ w ah abN af hm=>?_;have abN:=Nat.le_trans ch.size abN;have ch:=ch.trans ah (by simp);clear ah;refine jp ?_
               refine lu 8 rfl (by kernel_rfl) (fun _=>ch) ?_;obtain ⟨rB,FI,h⟩:=J.fx h;refine Hc (T:=J.jD) (ml:=[(⟨eQ,eN⟩:J.Target)]) 6 0 4 hm rfl rfl rfl Tryz.underlying121 Sj rfl rfl FI rfl rfl ⟨_,_,rfl,rfl,rfl⟩ wn rfl (af.g rfl) (af.g rfl) af rfl rfl fun a u_ vH Iu w af hm=>jp ?_;clear dD ch;have dD:=hm;have ch:=bp.refl [] w;refine e9.next 9 (bp [] w) (by kernel_rfl) <| lu 9 rfl (by kernel_rfl) (fun _=>ch) <| uE (vs:=[.q XT YM KW]) 7 hm rfl wn rfl Tryz.sizeOf120 rfl rfl rfl rfl (af.g rfl) (af.g rfl) rfl fun w hm=>jp ?_;clear dD ch;have dD:=hm
               have ch:=bp.refl [] w;refine e9.next 10 (bp [] w) (by kernel_rfl) <| lu 10 rfl (by kernel_rfl) (fun _=>ch) <| uE (vs:=[.q u_ vH rB]) 6 hm rfl wn rfl Tryz.sizeOf121 rfl rfl rfl rfl (af.g rfl) (af.g rfl) rfl fun w hm=>jp ?_;clear dD ch;have dD:=hm;have ch:=bp.refl [] w;refine e9.next 11 (bp [] w) (by kernel_rfl) <| I5 (by kernel_rfl) ?_ (fun _=>ch);clear dD ch;have af:=af.cut (l':=[(6,.c6 hb),(7,.c6 jN),(9,.i eQ),(27,.q ma od ft.bc),(28,.i (ft.bc.length:Int)),(29,.i eN)])
               exact Kc _ _ ⟨XT,YM,KW,aFF,u_,vH,rB,Iu,af.cut,hm.r5 [2,3,4,5,6,7,8] [1,0,6,7,8,9,10,11,12,13],(os h)⟩
             refine Gx (cs:=[.i eQ,.i eN]) wn (Bq (vs:=[(0,.agg #[.i eQ,.i eN])]) Tryz.underlying121 Tryz.sizeOf166 Tryz.zeroValue166 rfl rfl rfl ⟨⟨(af.g rfl),rfl⟩,trivial⟩ (by kernel_rfl)) af hm rfl rfl fun a arG w ah Fw af hm=>?_;have Fw:=Nat.le_trans ch.size Fw;have ch:=ch.trans ah (by simp);clear ah;refine jp <| lu 4 rfl (by kernel_rfl) (fun _=>ch) ?_;obtain ⟨Gb,RQ,h⟩:=J.fx h;refine Vu (T:=iD) (ml:=[fu.Name]) 6 1 2 hm rfl rfl rfl Tryz.underlying120 Sk rfl rfl RQ rfl rfl ⟨_,_,rfl,rfl,rfl⟩ wn rfl (af.g rfl) (af.g rfl) af rfl rfl fun a Eh EP Xw w ah af hm=>?_;have ch:=ch.trans ah (fun x ad=>.inl ad);clear ah;refine jp ?_
             refine lu 8 rfl (by kernel_rfl) (fun _=>ch) ?_;obtain ⟨rB,FI,h⟩:=J.fx h;refine Hc (T:=J.jD) (ml:=[(⟨eQ,eN⟩:J.Target)]) 6 0 4 hm rfl rfl rfl Tryz.underlying121 Sj rfl rfl FI rfl rfl ⟨_,_,rfl,rfl,rfl⟩ wn rfl (af.g rfl) (af.g rfl) af rfl rfl fun a u_ vH Iu w af hm=>jp ?_;clear dD ch;have dD:=hm;have ch:=bp.refl [] w;refine e9.next 9 (bp [] w) (by kernel_rfl) <| lu 9 rfl (by kernel_rfl) (fun _=>ch) <| uE (vs:=[.q Eh EP Gb]) 7 hm rfl wn rfl Tryz.sizeOf120 rfl rfl rfl rfl (af.g rfl) (af.g rfl) rfl fun w hm=>jp ?_;clear dD ch;have dD:=hm
             have ch:=bp.refl [] w;refine e9.next 10 (bp [] w) (by kernel_rfl) <| lu 10 rfl (by kernel_rfl) (fun _=>ch) <| uE (vs:=[.q u_ vH rB]) 6 hm rfl wn rfl Tryz.sizeOf121 rfl rfl rfl rfl (af.g rfl) (af.g rfl) rfl fun w hm=>jp ?_;clear dD ch;have dD:=hm;have ch:=bp.refl [] w;refine e9.next 11 (bp [] w) (by kernel_rfl) <| I5 (by kernel_rfl) ?_ (fun _=>ch);clear dD ch;have af:=af.cut (l':=[(6,.c6 hb),(7,.c6 jN),(9,.i eQ),(27,.q ma od ft.bc),(28,.i (ft.bc.length:Int)),(29,.i eN)])
             exact Kc _ _ ⟨Eh,EP,Gb,Xw,u_,vH,rB,Iu,af.cut,hm.r5 [2,3,4,5,6,7,8] [1,0,6,7,8,9,10,11,12,13],(os h)⟩
           refine Gx (cs:=[.i eQ,.i eN]) wn (Bq (vs:=[(0,.agg #[.i eQ,.i eN])]) Tryz.underlying121 Tryz.sizeOf166 Tryz.zeroValue166 rfl rfl rfl ⟨⟨(af.g rfl),rfl⟩,trivial⟩ (by kernel_rfl)) af hm rfl rfl fun a arF w ah Fv af hm=>?_;have Fv:=Nat.le_trans ch.size Fv;have ch:=ch.trans ah (by simp);clear ah;refine jp <| lu 3 rfl (by kernel_rfl) (fun _=>ch) <| Gx (cs:=[cl fu.Name]) wn (Bq (vs:=[(0,cl fu.Name)]) Tryz.underlying120 Tryz.sizeOf9 Tryz.zeroValue9 rfl rfl rfl ⟨⟨(af.g rfl),rfl⟩,trivial⟩ (by kernel_rfl)) af hm rfl rfl fun a arG w ah Fw af hm=>?_;have Fw:=Nat.le_trans ch.size Fw;have ch:=ch.trans ah (by simp);clear ah;refine jp ?_
           refine lu 4 rfl (by kernel_rfl) (fun _=>ch) ?_;obtain ⟨Gb,RQ,h⟩:=J.fx h;refine Vu (T:=iD) (ml:=[fu.Name]) 6 0 2 hm rfl rfl rfl Tryz.underlying120 Sk rfl rfl RQ rfl rfl ⟨_,_,rfl,rfl,rfl⟩ wn rfl (af.g rfl) (af.g rfl) af rfl rfl fun a Eh EP Xw w ah af hm=>?_;have ch:=ch.trans ah (fun x ad=>.inl ad);clear ah;refine jp <| lu 8 rfl (by kernel_rfl) (fun _=>ch) ?_;obtain ⟨rB,FI,h⟩:=J.fx h;refine Hc (T:=J.jD) (ml:=[(⟨eQ,eN⟩:J.Target)]) 6 0 4 hm rfl rfl rfl Tryz.underlying121 Sj rfl rfl FI rfl rfl ⟨_,_,rfl,rfl,rfl⟩ wn rfl (af.g rfl) (af.g rfl) af rfl rfl fun a u_ vH Iu w af hm=>jp ?_
           clear dD ch;have dD:=hm;have ch:=bp.refl [] w;refine e9.next 9 (bp [] w) (by kernel_rfl) <| lu 9 rfl (by kernel_rfl) (fun _=>ch) <| uE (vs:=[.q Eh EP Gb]) 7 hm rfl wn rfl Tryz.sizeOf120 rfl rfl rfl rfl (af.g rfl) (af.g rfl) rfl fun w hm=>jp ?_;clear dD ch;have dD:=hm;have ch:=bp.refl [] w;refine e9.next 10 (bp [] w) (by kernel_rfl) <| lu 10 rfl (by kernel_rfl) (fun _=>ch) <| uE (vs:=[.q u_ vH rB]) 6 hm rfl wn rfl Tryz.sizeOf121 rfl rfl rfl rfl (af.g rfl) (af.g rfl) rfl fun w hm=>jp ?_;clear dD ch
           have dD:=hm;have ch:=bp.refl [] w;refine e9.next 11 (bp [] w) (by kernel_rfl) <| I5 (by kernel_rfl) ?_ (fun _=>ch);clear dD ch;have af:=af.cut (l':=[(6,.c6 hb),(7,.c6 jN),(9,.i eQ),(27,.q ma od ft.bc),(28,.i (ft.bc.length:Int)),(29,.i eN)]);exact Kc _ _ ⟨Eh,EP,Gb,Xw,u_,vH,rB,Iu,af.cut,hm.r5 [2,3,4,5,6,7,8] [1,0,6,7,8,9,10,11,12,13],(os h)⟩
         rintro a w ⟨II,Jg,tX,NG,IJ,Jh,tY,NH,af,hm,aI⟩;subst acB;have h:=RI;clear RI;dsimp only at h;refine ar7 _ _ <| nW (by kernel_rfl) <| j' 2 [] [(29,.i (J.aA (eN+ 1)))] af fun a af=>wpList_nil ?_;exact Rf _ _ ⟨II,Jg,tX,NG,IJ,Jh,tY,NH,J.aA (eN+ 1),af.cut,hm,h⟩
       have h:=J.Pc Rk h;refine V7 <| qI (qI (D9 ?_));exact Fi _ _ ⟨o_,pw,jx,D',u9,vG,lN,Is,af.cut,hm,(os h)⟩
     rintro a w ⟨IG,Jd,tV,NE,IH,Jf,tW,NF,af,hm,aI⟩;subst Sy;have h:=RH;clear RH;dsimp only at h;exact Fg _ _ ⟨IG,Jd,tV,NE,IH,Jf,tW,NF,af.cut,hm.hl [0,1,4,5,6,7,8,9],(os h)⟩
   rintro a w ⟨ID,Ja,tT,NC,IE,Jb,tU,ND,af,hm,aI⟩;subst acA;have h:=RG;clear RG;dsimp only at h;exact cG (ID,Ja,tT,NC,IE,Jb,tU,ND) _ _ h (hm)
 clear hm af;intro aGR b a w RK af hm;obtain ⟨ss,sQ,kq,yh,st,sR,kr,yi⟩:=b;dsimp only at RK hm;rw [J.wI] at RK;obtain rfl:=cX RK;have af:=af.cut (l':=[(6,.c6 hb),(7,.c6 jN)]);dsimp only at h;refine s5 _ _ <| wp_seq_k fun K asc=>aoC (by kernel_rfl) (by kernel_rfl) <| ayY 4 [0,0,1,0] [(4,.q ss sQ kq),(5,.q st sR kr)] [jN,0,hb,0] (fun er ah=>(gJ (Cc ah (j_ (hm.e 4 rfl))) (gJ (Cc ah (j_ (hm.e 3 rfl))) ga))) af fun a af=>wpQuiet_nil fun w ah=>?_;have hm:=hm.eT ah;clear ah;refine asc _ _ <| wp_ret ?_
 obtain rfl:=cX h;refine awU 0 Tryz.results82 af hm rfl rfl rfl fun w hm=>?_;exact ⟨ss,sQ,yh,st,sR,yi,rfl,hm.r5 [1,2] [0,1]⟩
end Go.Proofs.YteeliipnilghaaaGreat
namespace Go.Proofs.YteeliipnilghaaaGreat
open Go Go.RowKit au J bn
section
variable {F:Nat->Prop} {w:World}
theorem aoc {cs:List Value} {d:J.Kind} (h:(bz.ty 128).rd F w cs d):J.AL.rd F w cs d:=by
 change fc (fun t=>(fC JH t).ty) F w [.i .i64,.s] cs (d.Kind,d.ap,()) at h
 obtain ⟨_,_,rfl,rfl,_,_,rfl,rfl,rfl⟩:=h
 rfl
theorem aob {cs:List Value} {d:J.Handler} (h:(bz.ty 157).rd F w cs d):J.AK.rd F w cs d:=by
 change fc (fun t=>(fC JF t).ty) F w [.i .i64,.i .i64,.i .i64,.s] cs (d.From,d.To,d.hV,d.ap,()) at h
 obtain ⟨_,_,rfl,rfl,_,_,rfl,rfl,_,_,rfl,rfl,_,_,rfl,rfl,rfl⟩:=h
 rfl
theorem aoa {cs:List Value} {d:J.Field} (h:(bz.ty 136).rd F w cs d):J.iE.rd F w cs d:=by
 change fc (fun t=>(fC EU t).ty) F w [.s,.i .i64,.s] cs (d.Name,d.Kind.Kind,d.Kind.ap,()) at h
 obtain ⟨_,_,rfl,rfl,_,_,rfl,rfl,_,_,rfl,rfl,rfl⟩:=h
 rfl
theorem aod {cs:List Value} {d:J.Method} (h:(bz.ty 131).rd F w cs d):J.oZ.rd F w cs d:=by
 change fc (fun t=>(fC JI t).ty) F w [.s,.b,.l 128,.i .i64,.s,.i .i64,.i .i64,.s,.l 157] cs (d.Name,d.Static,d.cw,d.Returns.Kind,d.Returns.ap,d.g8,d.g5,d.Code,d.cz,()) at h
 obtain ⟨_,_,rfl,rfl,_,_,rfl,rfl,_,_,rfl,I,_,_,rfl,rfl,_,_,rfl,rfl,_,_,rfl,rfl,_,_,rfl,rfl,_,_,rfl,rfl,_,_,rfl,aa,rfl⟩:=h
 have I:(b4 (bz.ty 128)).rd F w [_] d.cw:=I
 have aa:(b4 (bz.ty 157)).rd F w [_] d.cz:=aa
 obtain ⟨A,c,rfl⟩:=lb _ I
 obtain ⟨cj,bH,rfl⟩:=lb _ aa
 exact ⟨A,c,cj,bH,rfl,iB (fun _ _=>aoc) I,iB (fun _ _=>aob) aa⟩
theorem an' {cs:List Value} {d:J.ap} (h:(bz.ty 134).rd F w cs d):J.jC.rd F w cs d:=by
 change fc (fun t=>(fC JG t).ty) F w [.s,.s,.l 136,.l 131] cs (d.Name,d.cP,d.Fields,d.bc,()) at h
 obtain ⟨_,_,rfl,rfl,_,_,rfl,rfl,_,_,rfl,I,_,_,rfl,aa,rfl⟩:=h
 have I:(b4 (bz.ty 136)).rd F w [_] d.Fields:=I
 have aa:(b4 (bz.ty 131)).rd F w [_] d.bc:=aa
 obtain ⟨A,c,rfl⟩:=lb _ I
 obtain ⟨cj,bH,rfl⟩:=lb _ aa
 exact ⟨A,c,cj,bH,rfl,iB (fun _ _=>aoa) I,iB (fun _ _=>aod) aa⟩
theorem YI {cs:List Value} {d:Int} (h:(bz.ty 3).rd F w cs d):cs= [.int .i64 d]:=by
 change fc (fun t=>(fC JJ t).ty) F w [.i .i64] cs (d,()) at h
 obtain ⟨_,_,rfl,rfl,rfl⟩:=h
 rfl
theorem aAj {F':Nat->Prop} {cs:List Value} {d:J.Field} (h:J.iE.rd F w cs d):(bz.ty 136).rd F' w cs d:=by
 change cs=_ at h
 subst h
 change fc (fun t=>(fC EU t).ty) F' w [.s,.i .i64,.s] _ (d.Name,d.Kind.Kind,d.Kind.ap,())
 exact ⟨_,_,rfl,rfl,_,_,rfl,rfl,_,_,rfl,rfl,rfl⟩
theorem aAl {F':Nat->Prop} {cs:List Value} {d:J.Target} (h:J.jD.rd F w cs d):(bz.ty 166).rd F' w cs d:=by
 change cs=_ at h
 subst h
 change fc (fun t=>(fC JK t).ty) F' w [.i .i64,.i .i64] _ (d.ap,d.Method,())
 exact ⟨_,_,rfl,rfl,_,_,rfl,rfl,rfl⟩
theorem aAk {F':Nat->Prop} {cs:List Value} {d:List UInt8} (h:iD.rd F w cs d):(bz.ty 9).rd F' w cs d:=by
 change cs=_ at h
 subst h
 change fc (fun t=>(fC JL t).ty) F' w [.s] _ (d,())
 exact ⟨_,_,rfl,rfl,rfl⟩
theorem aqr {es:List MapEntry} {d:List (List UInt8 × Int)} (h: @iO bz F w 9 3 F9 es d):Ok lM (Value.int .i64) es d:=by
 induction es generalizing d with
 | nil=>cases d with
   | nil=>rfl
   | cons p d=>exact h.elim
 | cons e es bq=>cases d with
   | nil=>exact h.elim
   | cons p d=>
     obtain ⟨I,⟨xs,aa,aw⟩,bi⟩:=h
     have aa:=YI aa
     subst aa
     have:=bq bi
     unfold Ok at this ⊢
     rw [List.map_cons,List.map_cons,this]
     rw [show e.val= .int .i64 p.2 from aw,show e.key=lM.enc p.1 from I]
abbrev wM (cs:List J.ap) (b2:List (List UInt8 × Int)) (iC:List Int):List (aC bz.El):=[.c 117 [.s 134 (cs:List (bz.El 134)),.m 1,.s 3 (iC:List (bz.El 3))],.m 9 3 (b2:List (bz.El 9 × bz.El 3))]
theorem adk {W:World} {M0:List Nat} {X:Nat->Prop} {ρ vs:List Value} {cs:List J.ap} {b2:List (List UInt8 × Int)} {iC:List Int} {n:Int}
 (hm:Mem bz W M0 X (wM cs b2 iC) ρ w) (ah:a4 bz (bh X (wM cs b2 iC) ρ w) w ρ (wM cs b2 iC) [.b 0 0,.p (.int .i64 n)] vs) :
 ∃ g A c r cj bH,vs= [.pointer (some ⟨g,0,none⟩),.int .i64 n]/\bs w [] [] w [] [bB.ik g [.slice A cs.length c,.map (some r),.slice cj iC.length bH],ck J.jC A c cs,bB.map lM (Value.int .i64) r b2,ck (e3 .i64) cj bH iC]:=by
 have aq:=hm.len
 obtain ⟨aQ,Cy⟩:=hm.Ac (i:=0) rfl
 obtain ⟨I,Cz⟩:=hm.Ac (i:=1) rfl
 have b0:=hm.ok 0 _ _ rfl Cy
 have bY:=hm.ok 1 _ _ rfl Cz
 obtain ⟨g,us,rfl,ax,hu⟩:=b0
 obtain ⟨r,rfl,K,cG,es,fB,aE,he,aN,ag⟩:=bY
 simp only [a4,ar] at hu ah
 obtain ⟨kx,_,rfl,acb,qu,_,rfl,⟨eV,kW,rfl⟩,aHs,_,rfl,acd,rfl⟩:=hu
 obtain ⟨_,_,rfl,⟨g',fl,rfl⟩,_,_,rfl,rfl,rfl⟩:=ah
 rw [Cy] at fl
 rw [Cz] at kW
 cases fl
 cases kW
 obtain ⟨A,c,rfl⟩:=lb _ acb
 obtain ⟨cj,bH,rfl⟩:=lb _ acd
 have aD:∀ k,bh X (wM cs b2 iC) ρ w k->hI [] w k/\w.heap[k]? =w.heap[k]? :=fun k aj=>⟨⟨by simp,aj.2.2⟩,rfl⟩
 have auh:(ck J.jC A c cs).ok [] w:=iB (fun _ _=>an') ((b4 (bz.ty 134)).law aD acb)
 have aui:(ck (e3 .i64) cj bH iC).ok [] w:=iB (fun _ _=>YI) ((b4 (bz.ty 3)).law aD acd)
 have bE:∀ k b,w.heap[k]? =some b->k <w.heap.size:=fun k b aj=>by
  rcases Nat.lt_or_ge k w.heap.size with h | h
  · exact h
  · rw [Array.getElem?_eq_none h] at aj;cases aj
 obtain rfl:F9=K:=Option.some.inj cG
 refine ⟨g,A,c,r,cj,bH,rfl,bs.start [] [] w [] _ (by simp) (by simp [bW]) (by simp) (by simp [bW]) fun y hy=>?_⟩
 simp only [List.mem_cons,List.not_mem_nil,or_false] at hy
 rcases hy with rfl | rfl | rfl | rfl
 · exact ⟨by simp [bW],bE _ _ ax,j_ (t:=117) (cs:=[.slice A cs.length c,.map (some r),.slice cj iC.length bH]) ax⟩
 · exact auh
 · exact ⟨by simp [bW],bE _ _ aE,es,fB,aE,aqr he,aN,ag⟩
 · exact aui
end
theorem apf (F:Nat):(acH F).ha.yu aH 83 :=by
 intro ay az gz h W M0 X ρ w vs hm ah
 obtain ⟨⟨⟩,n,⟨⟩⟩:=ay
 obtain ⟨⟨cs,⟨⟩,iC,⟨⟩⟩,b2,⟨⟩⟩:=az
 have h:Option.map _ (J.rF F ⟨cs,b2,iC⟩ n)=some gz:=h
 obtain ⟨r,aE,rfl⟩:=Option.map_eq_some_iff.1 h
 have hm:Mem bz W M0 X (wM cs b2 iC) ρ w:=hm
 obtain ⟨g,A,c,q,cj,bH,rfl,ao⟩:=adk hm ah
 refine ⟨⟨.ret (.r 2 0),wM cs b2 iC++[.r 136 0 0 (r:List (bz.El 136))],[]⟩,by kernel_rfl,?_⟩
 refine (aoA ao aE).mono fun e w' ⟨ea,c1,xs,he,cb⟩=>?_
 obtain ⟨bg,bf⟩:=hm.aBL cb (t:=136) rfl fun _ _ _ ad _=>aAj ad
 refine ⟨_,bg,bf,fun k aj _=>cb.bV.block k aj (by simp),?_⟩
 subst he
 have aq:ρ.length= 2 :=hm.len
 exact ⟨trivial,_,by rw [List.getElem?_append_right (by omega),aq];rfl,Nat.le_refl _,fun _=>rfl⟩
theorem apg (F:Nat):(acI F).ha.yu aH 82 :=by
 intro ay az gz h W M0 X ρ w vs hm ah
 obtain ⟨⟨⟩,n,⟨⟩⟩:=ay
 obtain ⟨⟨cs,⟨⟩,iC,⟨⟩⟩,b2,⟨⟩⟩:=az
 have h:Option.map _ (J.Af F ⟨cs,b2,iC⟩ n)=some gz:=h
 obtain ⟨r,aE,rfl⟩:=Option.map_eq_some_iff.1 h
 have hm:Mem bz W M0 X (wM cs b2 iC) ρ w:=hm
 obtain ⟨g,A,c,q,cj,bH,rfl,ao⟩:=adk hm ah
 refine ⟨⟨.ret (.u [.r 2 0,.r 3 0]),wM cs b2 iC++[.r 9 0 0 (r.1 :List (bz.El 9)),.r 166 0 0 (r.2 :List (bz.El 166))],[]⟩,by kernel_rfl,?_⟩
 refine (aoB ao aE).mono fun e w' ⟨ea,c1,xs,c7,c2,ys,he,cb⟩=>?_
 obtain ⟨bg,bf⟩:=hm.aBM cb (t:=9) (t':=166) rfl (fun _ _ _ ad _=>aAk ad) rfl fun _ _ _ ad _=>aAl ad
 refine ⟨_,bg,bf,fun k aj _=>cb.bV.block k aj (by simp),?_⟩
 subst he
 have aq:ρ.length= 2 :=hm.len
 refine ⟨_,rfl,_,_,rfl,⟨trivial,_,by rw [List.getElem?_append_right (by omega),aq];rfl,Nat.le_refl _,fun _=>rfl⟩,_,_,rfl,⟨trivial,_,by rw [List.getElem?_append_right (by omega),aq];rfl,Nat.le_refl _,fun _=>rfl⟩,rfl⟩
theorem an4:ib.cM:=⟨⟨fun g h e=>(by cases e),fun g h e=>(by cases e)⟩,fun g fn c _ _ _=>rD (fun _=>rfl) c⟩
theorem aos (F:Nat):(IK F).cM:=
 ((ax7 ly (ax6 ly (ax5 ly (ax4 ly (ax3 ly an4))))).nc (f:=82) (by kernel_rfl) fun ys bl r ai=>Js (apg F) ys bl r (xj ai)).nc (f:=83) (by kernel_rfl) fun ys bl r ai=>Js (apf F) ys bl r (xj ai)
end Go.Proofs.YteeliipnilghaaaGreat
namespace bn
open Go Go.RowKit au J
section
variable {El:Nat->Type}
def O2 (bl:List (aC El)):aF El->Option (aF El)
 | .p u=>some (.p u)
 | .s t l=>some (.s t l)
 | .q t l=>some (.s t l)
 | .r i g=>match nth bl i with
   | some (.r t bG _ l)=>match Nat.beq g bG with
     | true=>some (.s t l)
     | false=>none
   | _=>none
 | _=>none
def EN (bl:List (aC El)):List (aF El)->Option (List (aF El))
 | []=>some []
 | y::r=>match O2 bl y,EN bl r with
   | some fA,some eV=>some (fA::eV)
   | _,_=>none
def acy:List (aF El)->Bool
 | []=>false
 | .r _ _::_=>true
 | _::r=>acy r
def O3 (g:List (aF El)->List (aC El)->D (fa El)) (ys:List (aF El)) (bl:List (aC El)):D (fa El):=match acy ys,EN bl ys with
 | true,some dT=>(g dT []).bind fun r=>match r.e with
   | .ret (.p u)=>.ok ⟨.ret (.p u),bl,[]⟩
   | _=>.no
 | _,_=>g ys bl
end
section
variable {T:bT} {W w:World} {M0:List Nat} {X:Nat->Prop} {bl:List (aC T.El)} {ρ:List Value}
theorem an_ (hm:Mem T W M0 X bl ρ w) {y fA:aF T.El} {v:Value} (h:O2 bl y=some fA) (ah:ar T (bh X bl ρ w) w ρ bl y v):ar T (bh (fun _=>False) ([]:List (aC T.El)) [] w) w [] [] fA v:=by
 have aD:∀ {b:List (aC T.El)} {k:Nat},bh X b ρ w k->bh (fun _=>False) ([]:List (aC T.El)) [] w k/\w.heap[k]? =w.heap[k]? :=fun aj=>⟨⟨fun h=>h,fun ⟨i,B,u,I,aa,_⟩=>by simp at aa,aj.2.2⟩,rfl⟩
 unfold O2 at h
 split at h
 · cases h;simp only [ar] at ah ⊢;exact ah
 · cases h;simp only [ar] at ah ⊢;exact (b4 _).law (fun k=>aD) ah
 · cases h;simp only [ar] at ah ⊢;exact (b4 _).law (fun k=>aD) ah.1
 · rename_i i g
   split at h
   · rename_i t bG k l hi
     rw [cW] at hi
     split at h
     · rename_i ag
       have ag:=Nat.eq_of_beq_eq_true ag
       cases h
       simp only [ar] at ah ⊢
       obtain ⟨_,u,I,_,aw⟩:=ah
       rw [hi] at aw
       obtain rfl:=aw ag
       have ai:=(hm.freeze hi).1.ok i (.z t bG k l) _ (List.getElem?_set_self (List.getElem?_eq_some_iff.1 hi).1) I
       exact (b4 (T.ty t)).law (fun k=>aD) (ai:(b4 (T.ty t)).rd _ w [_] l)
     · cases h
   · cases h
 · cases h
theorem YH (hm:Mem T W M0 X bl ρ w):∀ {ys dT:List (aF T.El)} {vs:List Value},EN bl ys=some dT->a4 T (bh X bl ρ w) w ρ bl ys vs->a4 T (bh (fun _=>False) ([]:List (aC T.El)) [] w) w [] [] dT vs
 | [],dT,vs,h,ah=>by
   simp only [EN,Option.some.injEq] at h
   subst h
   simpa only [a4] using ah
 | y::r,dT,vs,h,ah=>by
   simp only [EN] at h
   split at h
   · rename_i cL cD I aa
     cases h
     simp only [a4] at ah ⊢
     obtain ⟨u,us,e,bg,bf⟩:=ah
     exact ⟨u,us,e,an_ hm I bg,YH hm aa bf⟩
   · cases h
end
section
variable {E:Env} {f:Nat} {t:cU E}
theorem aoP (dZ:E.cZ= []) {g:List (aF E.T.El)->List (aC E.T.El)->D (fa E.T.El)} (hc:jj E f g):jj E f (O3 g):=by
 intro ys bl r ai W M0 X ρ w vs hm ax ah
 unfold O3 at ai
 split at ai
 · rename_i dT _ ag
   obtain ⟨fS,aQ,I⟩:=D.ja ai
   split at I
   · rename_i u hu
     have I:(⟨.ret (.p u),bl,[]⟩:fa E.T.El)=r:=I
     subst I
     refine (hc dT [] fS aQ w [] (fun _=>False) [] w vs (adu w) (fun g y ax=>by rw [dZ] at ax;simp [cJ] at ax) (YH hm ag ah)).mono fun e w' ⟨ρ',dH,_,_,aE⟩=>?_
     refine ⟨ρ,hm.eT dH.bV,Mem.qq dH.bV,fun k aj _=>dH.bV.block k aj (by simp),?_⟩
     rw [hu] at aE
     cases e with
     | returned v=>
       simp only [zb,ar] at aE ⊢
       exact aE
     | panicked vJ=>exact aE.elim
     | outgrown=>exact aE.elim
   · exact I.elim
 · exact hc ys bl r ai W M0 X ρ w vs hm ax ah
noncomputable def cU.zr (t:cU E) (f:Nat):cU E:=t.f f (O3 (t.br f))
theorem cU.cM.zr (a3:c8 E) (dZ:E.cZ= []) (h:t.cM) {f:Nat} (af:e0 E.ca f=true):(t.zr f).cM:=
 h.nc af (aoP dZ fun ys bl r ai=>((ka a3 h.ce h.le 100).ok f ys bl r ai).2)
end
end bn
namespace bn
open Go Go.RowKit au J
structure aR (E:Env) where
 t:cU E
 ok:c8 E->t.cM
 cZ:E.cZ= []
section
variable {E:Env}
noncomputable def aR.rt (s:aR E) (f:Nat) (c:hx E.T) (he:c.Eq E s.t.br s.t.LE f) (af:e0 E.ca f=true:=by kernel_rfl):aR E:=⟨s.t.f f (c.run E),fun h=>(s.ok h).rt h s.cZ af he,s.cZ⟩
noncomputable def aR.sY (s:aR E) (f:Nat) (c:hx E.T) (he:c.Eq E s.t.br s.t.LE f) (af:e0 E.ca f=true:=by kernel_rfl):aR E:=⟨s.t.sY f c,fun h=>(s.ok h).ars h s.cZ af he,s.cZ⟩
noncomputable def aR.Mh (s:aR E) (f:Nat) (c:po E.T) (he:c.Eq E s.t.br s.t.LE f) (af:e0 E.ca f=true:=by kernel_rfl):aR E:=⟨s.t.f f (c.run E),fun h=>(s.ok h).Mh h s.cZ af he,s.cZ⟩
noncomputable def aR.fn (s:aR E) (f:Nat) (c:eg E.T) (he:c.Eq E s.t.br s.t.LE f) (af:e0 E.ca f=true:=by kernel_rfl):aR E:=⟨s.t.f f (c.run E),fun h=>(s.ok h).fn h s.cZ af he,s.cZ⟩
noncomputable def aR.ii (s:aR E) (f:Nat) (c:jJ E.T) (he:c.Eq E s.t.br s.t.LE f) (af:e0 E.ca f=true:=by kernel_rfl):aR E:=⟨s.t.f f (c.run E),fun h=>(s.ok h).ii h s.cZ af he,s.cZ⟩
noncomputable def aR.JR (s:aR E) (f:Nat) (c:eg E.T) (he:c.Eq E s.t.br s.t.LE f) (af:e0 E.ca f=true:=by kernel_rfl):aR E:=⟨s.t.JR f c,fun h=>(s.ok h).arp h s.cZ af he,s.cZ⟩
noncomputable def aR.zr (s:aR E) (f:Nat) (af:e0 E.ca f=true:=by kernel_rfl):aR E:=⟨s.t.zr f,fun h=>(s.ok h).zr h s.cZ af,s.cZ⟩
noncomputable def aR.add (s:aR E) (f:Nat) (r:List (aF E.T.El)->List (aC E.T.El)->D (fa E.T.El)) (hc:jj E f r) (af:e0 E.ca f=true:=by kernel_rfl):aR E:=⟨s.t.f f r,fun h=>(s.ok h).nc af hc,s.cZ⟩
noncomputable def aR.ayj (s:aR E) (g i:Nat) (r:eG E.T.El->D (cf E.T.El)) (x y:Code) (dQ:c8 E->g ∈ E.ca->BE E ⟨gd E.P g,[]⟩ r x y) (I:GG E.P g i=some (x,y):=by kernel_rfl):aR E:=⟨s.t.l g (1000000 +i) r,fun h=>(s.ok h).an0 I (dQ h),s.cZ⟩
noncomputable def aR.bX (s:aR E) (g i F:Nat) (c:bJ E.T) (he:c.rC.mc E s.t.br (s.t.LE g) (gd E.P g) i (h0 E.P g i)) (I:qf E.P g i=true:=by kernel_rfl):aR E:=⟨s.t.l g i (c.run E F),fun h=>(s.ok h).bX h s.cZ I he F,s.cZ⟩
noncomputable def aR.Gm (s:aR E) (g i F:Nat) (c:bJ E.T) (he:c.rC.mc E s.t.br (s.t.LE g) (gd E.P g) i (h0 E.P g i)) (I:qf E.P g i=true:=by kernel_rfl):aR E:=⟨s.t.Gm g i c F,fun h=>(s.ok h).awO h s.cZ I he F,s.cZ⟩
noncomputable def aR.gw (s:aR E) (g i F:Nat) (c:fI E.T) (he:c.Eq E s.t.br (s.t.LE g) (gd E.P g) i (h0 E.P g i)) (I:qf E.P g i=true:=by kernel_rfl):aR E:=⟨s.t.l g i (c.run E F),fun h=>(s.ok h).gw h s.cZ I he F,s.cZ⟩
end
end bn
