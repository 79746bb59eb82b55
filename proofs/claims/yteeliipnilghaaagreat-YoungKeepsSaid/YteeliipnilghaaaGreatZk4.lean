/- Part 4 of the proof that is ended in the last text: small logic, what the functions compute, walks, plain laws. -/
import Derived.Test.YteeliipnilghaaaGreatZk3
import Derived.Test.YteeliipnilghaaaGreatChecked
import Derived.KernelRfl
namespace J
def ba {ρ α:Type} (o:Option (Way ρ α)):Option (α ⊕ ρ):=match o with
 | none=>none
 | some (.go a)=>some (.inl a)
 | some (.out r)=>some (.inr r)
noncomputable def c9 {α:Type} (p:Prop) (o:Option α):Option α:=@ite _ p (Classical.propDecidable p) o none
theorem dy {α:Type} {p:Prop} {o:Option α} (h:p):c9 p o=o:=by unfold c9;exact if_pos h
theorem dx {α:Type} {p:Prop}:c9 p (none:Option α)=none:=by unfold c9;split <;> rfl
theorem dZ {α:Type} {p:Prop} {o:Option α} {r:α} (h:c9 p o=some r):p/\o=some r:=by
 unfold c9 at h
 split at h
 · rename_i aH
   exact ⟨aH,h⟩
 · cases h
section
variable {α β cw oY ρ σ:Type}
theorem auH (o:Option (Way ρ α)) (k:α->Option (Way ρ β)):cW o k=dD (ba o) k (fun r=>some (.out r)):=by
 cases o with
 | none=>rfl
 | some y=>cases y <;> rfl
theorem auS (o:Option (Way ρ α)) (k:α->Option ρ):cj o k=dD (ba o) k (fun r=>some r):=by
 cases o with
 | none=>rfl
 | some y=>cases y <;> rfl
theorem auZ (a:α):ba (some (.go a):Option (Way ρ α))=some (.inl a):=rfl
theorem au0 (r:ρ):ba (some (.out r):Option (Way ρ α))=some (.inr r):=rfl
theorem au1:ba (none:Option (Way ρ α))=none:=rfl
theorem au2 (o:Option cw) (f:cw->Option (Way ρ α)):ba (o.bind f)=o.bind fun x=>ba (f x):=by cases o <;> rfl
theorem au3 (c:Bool) (x y:Option (Way ρ α)):ba (cond c x y)=cond c (ba x) (ba y):=by cases c <;> rfl
theorem au4 (o:Option (cw ⊕ oY)) (f:cw->Option (Way ρ α)) (g:oY->Option (Way ρ α)):ba (dD o f g)=dD o (fun x=>ba (f x)) (fun x=>ba (g x)):=by
 cases o with
 | none=>rfl
 | some y=>cases y <;> rfl
theorem au5 (a:α) (k:α->Option cw) (l:β->Option cw):dD (some (.inl a)) k l=k a:=rfl
theorem auI (b:β) (k:α->Option cw) (l:β->Option cw):dD (some (.inr b)) k l=l b:=rfl
theorem auJ (k:α->Option cw) (l:β->Option cw):dD none k l=none:=rfl
theorem auK (o:Option oY) (f:oY->Option (α ⊕ β)) (k:α->Option cw) (l:β->Option cw):dD (o.bind f) k l=o.bind fun x=>dD (f x) k l:=by cases o <;> rfl
theorem auL (c:Bool) (x y:Option (α ⊕ β)) (k:α->Option cw) (l:β->Option cw):dD (cond c x y) k l=cond c (dD x k l) (dD y k l):=by cases c <;> rfl
theorem auM (o:Option (ρ ⊕ σ)) (f:ρ->Option (α ⊕ β)) (g:σ->Option (α ⊕ β)) (k:α->Option cw) (l:β->Option cw):dD (dD o f g) k l=dD o (fun x=>dD (f x) k l) (fun x=>dD (g x) k l):=by
 cases o with
 | none=>rfl
 | some y=>cases y <;> rfl
theorem auN (o:Option α) (f:α->Option β) (g:β->Option cw):(o.bind f).bind g=o.bind fun x=>(f x).bind g:=by cases o <;> rfl
theorem auO (a:α) (f:α->Option β):(some a).bind f=f a:=rfl
theorem auP (f:α->Option β):Option.bind none f=none:=rfl
theorem auQ (c:Bool) (x y:Option α) (f:α->Option β):(cond c x y).bind f=cond c (x.bind f) (y.bind f):=by cases c <;> rfl
theorem auR (o:Option (ρ ⊕ σ)) (k:ρ->Option α) (l:σ->Option α) (f:α->Option β):(dD o k l).bind f=dD o (fun x=>(k x).bind f) (fun x=>(l x).bind f):=by
 cases o with
 | none=>rfl
 | some y=>cases y <;> rfl
theorem auT (o:Option α) (f:α->Option β) (g:β->cw):(o.bind f).map g=o.bind fun x=>(f x).map g:=by cases o <;> rfl
theorem auU (c:Bool) (x y:Option α) (g:α->cw):(cond c x y).map g=cond c (x.map g) (y.map g):=by cases c <;> rfl
theorem auV (a:α) (g:α->cw):(some a).map g=some (g a):=rfl
theorem auW (g:α->cw):Option.map g none=none:=rfl
theorem auX (o:Option (ρ ⊕ σ)) (k:ρ->Option α) (l:σ->Option α) (g:α->cw):(dD o k l).map g=dD o (fun x=>(k x).map g) (fun x=>(l x).map g):=by
 cases o with
 | none=>rfl
 | some y=>cases y <;> rfl
theorem auY {cJ:Type} (k:cJ) (b:cJ->Option α):join k b=b k:=rfl
def iy {α β:Type} (o:Option (Option α × β)):Option ((α × β) ⊕ β):=match o with
 | none=>none
 | some (some v,e)=>some (.inl (v,e))
 | some (none,e)=>some (.inr e)
theorem aba (o:Option (Option α × β)) (f:Option α × β->Option cw):o.bind f=dD (iy o) (fun p=>f (some p.1,p.2)) (fun e=>f (none,e)):=by
 rcases o with _ | ⟨_ | v,e⟩ <;> rfl
theorem abb (v:α) (e:β):iy (some (some v,e))=some (.inl (v,e)):=rfl
theorem abd (e:β):iy (some ((none:Option α),e))=some (.inr e):=rfl
theorem abe:iy (none:Option (Option α × β))=none:=rfl
theorem abf (o:Option cw) (f:cw->Option (Option α × β)):iy (o.bind f)=o.bind fun x=>iy (f x):=by cases o <;> rfl
theorem abg (c:Bool) (x y:Option (Option α × β)):iy (cond c x y)=cond c (iy x) (iy y):=by cases c <;> rfl
theorem abh (o:Option (cw ⊕ oY)) (f:cw->Option (Option α × β)) (g:oY->Option (Option α × β)):iy (dD o f g)=dD o (fun x=>iy (f x)) (fun x=>iy (g x)):=by
 cases o with
 | none=>rfl
 | some y=>cases y <;> rfl
theorem auD (b x:Bool):cond b (some x) (some false)=some (b && x):=by cases b <;> rfl
theorem auE {α:Type} (a b:Bool) (x y:Option α):cond a (cond b x y) y=cond (a && b) x y:=by cases a <;> rfl
theorem Rm {α:Type} (a b:Bool) (x y:Option α):cond a x (cond b x y)=cond (a || b) x y:=by cases a <;> rfl
theorem a6:(∀ {α β ρ:Type} (o:Option (Way ρ α)) (k:α->Option (Way ρ β)),cW o k=dD (ba o) k (fun r=>some (.out r)))/\(∀ {α ρ:Type} (o:Option (Way ρ α)) (k:α->Option ρ),cj o k=dD (ba o) k (fun r=>some r))/\(∀ {α ρ:Type} (a:α),ba (some (.go a):Option (Way ρ α))=some (.inl a))/\(∀ {α ρ:Type} (r:ρ),ba (some (.out r):Option (Way ρ α))=some (.inr r))/\(∀ {α ρ:Type},ba (none:Option (Way ρ α))=none)/\(∀ {α cw ρ:Type} (o:Option cw) (f:cw->Option (Way ρ α)),ba (o.bind f)=o.bind fun x=>ba (f x))/\(∀ {α ρ:Type} (c:Bool) (x y:Option (Way ρ α)),ba (cond c x y)=cond c (ba x) (ba y))/\(∀ {α cw oY ρ:Type} (o:Option (cw ⊕ oY)) (f:cw->Option (Way ρ α)) (g:oY->Option (Way ρ α)),ba (dD o f g)=dD o (fun x=>ba (f x)) (fun x=>ba (g x)))/\(∀ {α β cw:Type} (a:α) (k:α->Option cw) (l:β->Option cw),dD (some (.inl a)) k l=k a)/\(∀ {α β cw:Type} (b:β) (k:α->Option cw) (l:β->Option cw),dD (some (.inr b)) k l=l b)/\(∀ {α β cw:Type} (k:α->Option cw) (l:β->Option cw),dD none k l=none)/\(∀ {α β cw oY:Type} (o:Option oY) (f:oY->Option (α ⊕ β)) (k:α->Option cw) (l:β->Option cw),dD (o.bind f) k l=o.bind fun x=>dD (f x) k l)/\(∀ {α β cw:Type} (c:Bool) (x y:Option (α ⊕ β)) (k:α->Option cw) (l:β->Option cw),dD (cond c x y) k l=cond c (dD x k l) (dD y k l))/\(∀ {α β cw ρ σ:Type} (o:Option (ρ ⊕ σ)) (f:ρ->Option (α ⊕ β)) (g:σ->Option (α ⊕ β)) (k:α->Option cw) (l:β->Option cw),dD (dD o f g) k l=dD o (fun x=>dD (f x) k l) (fun x=>dD (g x) k l))/\(∀ {α β cw:Type} (o:Option α) (f:α->Option β) (g:β->Option cw),(o.bind f).bind g=o.bind fun x=>(f x).bind g)/\(∀ {α β:Type} (a:α) (f:α->Option β),(some a).bind f=f a)/\(∀ {α β:Type} (f:α->Option β),Option.bind none f=none)/\(∀ {α β:Type} (c:Bool) (x y:Option α) (f:α->Option β),(cond c x y).bind f=cond c (x.bind f) (y.bind f))/\(∀ {α β ρ σ:Type} (o:Option (ρ ⊕ σ)) (k:ρ->Option α) (l:σ->Option α) (f:α->Option β),(dD o k l).bind f=dD o (fun x=>(k x).bind f) (fun x=>(l x).bind f))/\(∀ {α β cw:Type} (o:Option α) (f:α->Option β) (g:β->cw),(o.bind f).map g=o.bind fun x=>(f x).map g)/\(∀ {α cw:Type} (c:Bool) (x y:Option α) (g:α->cw),(cond c x y).map g=cond c (x.map g) (y.map g))/\(∀ {α cw:Type} (a:α) (g:α->cw),(some a).map g=some (g a))/\(∀ {α cw:Type} (g:α->cw),Option.map g none=none)/\(∀ {α cw ρ σ:Type} (o:Option (ρ ⊕ σ)) (k:ρ->Option α) (l:σ->Option α) (g:α->cw),(dD o k l).map g=dD o (fun x=>(k x).map g) (fun x=>(l x).map g))/\(∀ {α:Type} {cJ:Type} (k:cJ) (b:cJ->Option α),join k b=b k):=⟨auH,auS,auZ,au0,au1,au2,au3,au4,au5,auI,auJ,auK,auL,auM,auN,auO,auP,auQ,auR,auT,auU,auV,auW,auX,auY⟩
end
end J
namespace bB
open Go Go.RowKit ax J
theorem bJ.bW {E:Env} {bG:fE E} {LE:nR E} {n id:Nat} {body:Code} {c:bJ E.T} (aP:∀ d,c.fn 0 d=none)
 (I:∀ k (aA:dG E.T.El c.bD) (aG:cM E.T.El c.pbs) q,c.fn (k+ 1) (aA,aG)=some q->(den E bG LE n body (vy E c.ra aA aG)).run (c.ra.fin E id k)=(c.fn (k+ 1) (aA,aG)).map fun r=>bR (aA,aG) c.ws r):c.ra.lK E bG LE n id body:=
 ⟨fun d=>by exact (congrArg (Option.map _) (aP d)).trans rfl,fun k aA aG r h=>by
  obtain ⟨q,ak,_⟩:=Option.map_eq_some_iff.1 h
  exact (I k aA aG q ak).trans h⟩
end bB
namespace bB
open Go Go.RowKit ax J
def okF (P:Program) (f:Nat):Bool:=match P.funcs[f]? with
 | some fn=>!(fn.name == "runtime.NumGoroutine") && !fn.body.isNone
 | none=>false
theorem abr {P:Program} {f:Nat} (h:okF P f=true) (args:Array Value) (w:World):(callFunc f args).run P w= .ok (.enter f args) w:=by
 unfold okF at h
 split at h
 · rename_i fn ag
   simp only [Bool.and_eq_true,Bool.not_eq_true'] at h
   have I: ¬ fn.name= "runtime.NumGoroutine" :=fun e=>by rw [e] at h;simp at h
   cases ah:fn.body with
   | none=>rw [ah] at h;simp at h
   | some c=>simp [callFunc,go_sem,ag,I,ah]
 · cases h
def JZ (P:Program):List Nat->Bool
 | []=>true
 | f::r=>okF P f && JZ P r
theorem Rv {P:Program}:∀ {l:List Nat} {f:Nat},JZ P l=true->f ∈ l->okF P f=true
 | g::r,f,h,ag=>by
   simp only [JZ,Bool.and_eq_true] at h
   rcases List.mem_cons.1 ag with rfl | ag
   · exact h.1
   · exact Rv h.2 ag
theorem Km {α:Type} {A B:dh α} {F F':Nat->Prop} {w w':World} (h:∀ cs d,A.rd F w cs d->B.rd F' w' cs d):∀ {l:List α} {xs:List Value},dT A F w xs l->dT B F' w' xs l
 | [],xs,ad=>ad
 | d::r,xs,ad=>by
   obtain ⟨cs,ys,rfl,I,aa⟩:=ad
   exact ⟨cs,ys,rfl,h _ _ I,Km h aa⟩
theorem iA {α:Type} {A B:dh α} {F:Nat->Prop} {w:World} (h:∀ cs d,A.rd F w cs d->B.rd F w cs d) {xs:List Value} {l:List α} (ad:(b3 A).rd F w xs l):(b3 B).rd F w xs l:=by
 obtain ⟨P,c,e,I,aa,au,bb⟩:=ad
 refine ⟨P,c,e,I,aa,au,fun ap=>?_⟩
 obtain ⟨dO,bE,ys,fM,iQ⟩:=bb ap
 exact ⟨dO,bE,ys,Km h fM,iQ⟩
def xH (P:Program) (T:b6) (t:Nat) (e:b9 T.El t):Prop:=∀ f,e.eq=some f-> ∀ F w xs ys d e',e.ty.rd F w xs d->e.ty.rd F w ys e'-> ∀ (o:Oper) (a:Act) (x y:Operand) (t':TypeId) (b:Bool),o.op= .binOp (cond b .eql .neq) t x y t'->a.eval x= .agg ⟨xs⟩->a.eval y= .agg ⟨ys⟩-> ∀ w',bh P o a w' (.bool (cond b (f d e') (!f d e'))) w'
def M8 (P:Program) (T:b6):List (Σ t,b9 T.El t)->Prop
 | []=>True
 | p::r=>xH P T p.1 p.2 /\M8 P T r
theorem M7 {P:Program} {T:b6} {t:Nat}:∀ {es:List (Σ t,b9 T.El t)},M8 P T es->xH P T t (fK es t)
 | [],_=>fun f ag=>by cases ag
 | p::r,h=>by
   simp only [fK]
   split
   · rename_i e _
     subst e
     exact h.1
   · exact M7 h.2
theorem fl {P:Program} {T:b6} {t:Nat} {e:b9 T.El t} (h:e.eq=none):xH P T t e:=fun f ag=>by rw [h] at ag;cases ag
section
variable {E:Env} {f:Nat}
theorem aaS (W:World):Mem E.T W [] (fun _=>False) [] [] W:=
 ⟨br.refl _ _,rfl,fun _ h=>h.elim,fun k ⟨i,B,h,I,_⟩=>by simp at I,fun i j B C h g I=>by simp at I,fun i B h I=>by simp at I⟩
theorem atL (e3:E.dW= []) {g:List (aL E.T.El)->List (aJ E.T.El)->D (fx E.T.El)} (hc:kQ E f g) {ys:List (aL E.T.El)} (aj:(g ys []).out ⟨.ret (.p (.bool true)),[],[]⟩) {W:World} {vs:List Value} (af:a4 E.T (fun k=>k <W.heap.size) W [] [] ys vs) :
 Calls E.P f ⟨vs⟩ W fun e w'=>e= .returned (.bool true)/\br [] W w':=by
 have aP:a4 E.T (bm (fun _=>False) ([]:List (aJ E.T.El)) [] W) W [] [] ys vs:=a4.later (fun k ai=>⟨⟨fun h=>h,fun ⟨i,B,h,I,_⟩=>by simp at I,ai⟩,rfl⟩) .refl ys af
 refine (hc ys [] _ aj W [] (fun _=>False) [] W vs (aaS W) (fun g y ay=>by rw [e3] at ay;simp [eI] at ay) aP).mono fun e w' ⟨ρ',hm,_,_,aB⟩=>?_
 cases e with
 | returned v=>
   have aB:v= .bool true:=by
    simp only [AY,aw] at aB
    exact aB
   exact ⟨by rw [aB],hm.b_⟩
 | panicked vf=>exact aB.elim
 | outgrown=>exact aB.elim
end
end bB
namespace bB
open Go Go.RowKit ax J
section
variable {T:b6} {W w w':World} {M0:List Nat} {X:Nat->Prop} {bl:List (aJ T.El)} {ρ:List Value} {E:List a7} {D:List bw}
variable {t sz:Nat} {h:Value} {l:List (T.El t)} {xs:List Value} {R:dh (T.El t)}
variable {t' rM:Nat} {h':Value} {l':List (T.El t')} {eT:List Value} {VR:dh (T.El t')}
theorem apV {A:Option Addr} {n c k:Nat} (ai:k ∈ ah (.slice A n c)):k ∈ (Value.slice A n c).ownBlock.toList:=by
 cases A <;> cases c <;> simp_all [ah,Value.ownBlock]
theorem S8 {F:Nat->Prop} {M:List Nat} (av:(a7.row t sz h l xs).ok w') (aB:(bw.rows R xs l).ok M w') (aj:(T.ty t).size=sz) (eV:∀ F cs d,R.rd F w' cs d-> ∀ F',(T.ty t).rd F' w' cs d) (g k:Nat):ig T F w' ρ bl (.r t g k l) h:=by
 subst aj
 obtain ⟨A,c,rfl,_⟩:=F2 av
 exact ⟨A,c,xs,rfl,.inl av,Km (fun cs d ad=>eV _ _ _ ad _) aB⟩
theorem Ih (ao:bq w [] [] w' E D) (hi:a7.row t sz h l xs ∈ E) {g k:Nat}:∀ q ∈ bA (aJ.r t g k l:aJ T.El) h,q ∈ (a7.row t sz h l xs).bA/\w.heap.size<=q/\q <w'.heap.size:=fun q aS=>by
 obtain ⟨A,c,rfl,_⟩:=F2 (ao.ok _ hi)
 have aP:q ∈ (a7.row t sz (.slice A l.length c) l xs).bA:=apV aS
 have I:=ao.lt q (List.mem_flatMap.2 ⟨_,hi,aP⟩)
 exact ⟨aP,I.2.resolve_left (by simp),I.1⟩
theorem Mem.ay1 (hm:Mem T W M0 X bl ρ w) (ao:bq w [] [] w' (a7.row t sz h l xs::E) (bw.rows R xs l::D)) (aj:(T.ty t).size=sz) (eV:∀ F cs d,R.rd F w' cs d-> ∀ F',(T.ty t).rd F' w' cs d) :
 Mem T W M0 X (bl++[.r t 0 0 l]) (ρ++[h]) w'/\To X bl (bl++[.r t 0 0 l]) ρ (ρ++[h]) w w':=
 ⟨hm.push ao.b_ (fun q aS=>(Ih (xs:=xs) (sz:=sz) ao (by simp) q aS).2) (S8 (ao.e 0 rfl) (ao.d 0 rfl) aj eV 0 0),hm.w2 ao.b_ fun q aS=>(Ih (xs:=xs) (sz:=sz) ao (by simp) q aS).2⟩
theorem Mem.ay2 (hm:Mem T W M0 X bl ρ w) (ao:bq w [] [] w' (a7.row t sz h l xs::a7.row t' rM h' l' eT::E) (bw.rows R xs l::bw.rows VR eT l'::D)) (aj:(T.ty t).size=sz) (eV:∀ F cs d,R.rd F w' cs d-> ∀ F',(T.ty t).rd F' w' cs d)
 (I3:(T.ty t').size=rM) (apB:∀ F cs d,VR.rd F w' cs d-> ∀ F',(T.ty t').rd F' w' cs d) :
 Mem T W M0 X (bl++[.r t 0 0 l,.r t' 0 0 l']) (ρ++[h,h']) w'/\To X bl (bl++[.r t 0 0 l,.r t' 0 0 l']) ρ (ρ++[h,h']) w w':=by
 have f1:=Ih (T:=T) (g:=0) (k:=0) (l:=l) (h:=h) (xs:=xs) (sz:=sz) ao (by simp)
 have f2:=Ih (T:=T) (g:=0) (k:=0) (l:=l') (h:=h') (xs:=eT) (sz:=rM) ao (by simp)
 have aN:=ao.bu
 simp only [b7,List.flatMap_cons] at aN
 refine ⟨hm.abZ ao.b_ (fun q aS=>(f1 q aS).2) (fun q aS=>(f2 q aS).2) (fun q I aa=>?_) (S8 (ao.e 0 rfl) (ao.d 0 rfl) aj eV 0 0) (S8 (ao.e 1 rfl) (ao.d 1 rfl) I3 apB 0 0),hm.TK ao.b_ (fun q aS=>(f1 q aS).2) fun q aS=>(f2 q aS).2⟩
 exact (List.nodup_append.1 aN).2.2 q (f1 q I).1 q (List.mem_append_left _ (f2 q aa).1) rfl
end
end bB
namespace Go.Proofs.YteeliipnilghaaaGreat
open Go Go.RowKit ax bB
def cz:Nat->Type:=XI [(2,Int),(3,Int),(4,Bool),(5,UInt8),(6,UInt8),(9,List UInt8),(10,List UInt8),(11,List UInt8),(21,Int),(22,List Int),(24,J.aW),(136,J.Field),(128,J.Kind),(157,J.Handler),(131,J.Method),(134,J.aq),(25,List J.aq),(124,List J.Field),(26,List (List J.Field)),(120,List (List UInt8)),(27,List (List (List UInt8))),(166,J.Target),(121,List J.Target),(28,List (List J.Target)),(30,J.aQ),(31,Int),(69,J.ch),(126,List J.Kind),(129,List J.Handler),(132,List J.Method),(192,Int),(202,List (List Int)),(204,List UInt8),(219,UInt8),(220,UInt8),(223,Int),(224,Int)]
def XU:List (Σ t,b9 cz t):=[]
def al:b9 cz 2 :=eS XU false [.i .i64] (fun (d:Int)=>(d,())) (fun (p:Int × Unit)=>p.1) none (some Jd)
def H6:List (Σ t,b9 cz t):=⟨2,al⟩::XU
def aT:b9 cz 3 :=eS H6 false [.i .i64] (fun (d:Int)=>(d,())) (fun (p:Int × Unit)=>p.1) none (some Jd)
def Yb:List (Σ t,b9 cz t):=⟨3,aT⟩::H6
def bU:b9 cz 4 :=eS Yb false [.b] (fun (d:Bool)=>(d,())) (fun (p:Bool × Unit)=>p.1) none none
def Na:List (Σ t,b9 cz t):=⟨4,bU⟩::Yb
def dn:b9 cz 5 :=eS Na false [.y] (fun (d:UInt8)=>(d,())) (fun (p:UInt8 × Unit)=>p.1) none none
def Yf:List (Σ t,b9 cz t):=⟨5,dn⟩::Na
def gM:b9 cz 6 :=eS Yf false [.y] (fun (d:UInt8)=>(d,())) (fun (p:UInt8 × Unit)=>p.1) none none
def H8:List (Σ t,b9 cz t):=⟨6,gM⟩::Yf
def Bj:b9 cz 9 :=eS H8 false [.s] (fun (d:List UInt8)=>(d,())) (fun (p:(List UInt8) × Unit)=>p.1) none (some E6)
def Yh:List (Σ t,b9 cz t):=⟨9,Bj⟩::H8
def Bh:b9 cz 10 :=eS Yh false [.s] (fun (d:List UInt8)=>(d,())) (fun (p:(List UInt8) × Unit)=>p.1) none (some E6)
def XV:List (Σ t,b9 cz t):=⟨10,Bh⟩::Yh
def Bi:b9 cz 11 :=eS XV false [.s] (fun (d:List UInt8)=>(d,())) (fun (p:(List UInt8) × Unit)=>p.1) none (some E6)
def XW:List (Σ t,b9 cz t):=⟨11,Bi⟩::XV
def Xs:b9 cz 21 :=eS XW false [.i .i32] (fun (d:Int)=>(d,())) (fun (p:Int × Unit)=>p.1) none none
def X7:List (Σ t,b9 cz t):=⟨21,Xs⟩::XW
def Xu:b9 cz 22 :=eS X7 false [.l 3] (fun (d:List Int)=>(d,())) (fun (p:(List Int) × Unit)=>p.1) none none
def X9:List (Σ t,b9 cz t):=⟨22,Xu⟩::X7
def Xy:b9 cz 24 :=eS X9 true [.l 3,.i .i64,.i .i64,.i .i64,.i .i64,.l 3,.i .i64] (fun (d:J.aW)=>(d.Words,d.ar,d.aV,d.a3,d.a1,d.aY,d.Next,())) (fun (p:(List Int) × Int × Int × Int × Int × (List Int) × Int × Unit)=>(⟨p.1,p.2.1,p.2.2.1,p.2.2.2.1,p.2.2.2.2.1,p.2.2.2.2.2.1,p.2.2.2.2.2.2.1⟩:J.aW)) none none
def DR:List (Σ t,b9 cz t):=⟨24,Xy⟩::X9
def M2:b9 cz 136 :=eS DR true [.s,.i .i64,.s] (fun (d:J.Field)=>(d.Name,d.Kind.Kind,d.Kind.aq,())) (fun (p:(List UInt8) × Int × (List UInt8) × Unit)=>(⟨p.1,⟨p.2.1,p.2.2.1⟩⟩:J.Field)) (some fun (d e:J.Field)=>decide (d=e)) none
def H4:List (Σ t,b9 cz t):=⟨136,M2⟩::DR
def M1:b9 cz 128 :=eS H4 true [.i .i64,.s] (fun (d:J.Kind)=>(d.Kind,d.aq,())) (fun (p:Int × (List UInt8) × Unit)=>(⟨p.1,p.2.1⟩:J.Kind)) (some fun (d e:J.Kind)=>decide (d=e)) none
def H2:List (Σ t,b9 cz t):=⟨128,M1⟩::H4
def M3:b9 cz 157 :=eS H2 true [.i .i64,.i .i64,.i .i64,.s] (fun (d:J.Handler)=>(d.From,d.To,d.hU,d.aq,())) (fun (p:Int × Int × Int × (List UInt8) × Unit)=>(⟨p.1,p.2.1,p.2.2.1,p.2.2.2.1⟩:J.Handler)) (some fun (d e:J.Handler)=>decide (d=e)) none
def H5:List (Σ t,b9 cz t):=⟨157,M3⟩::H2
def Xm:b9 cz 131 :=eS H5 true [.s,.b,.l 128,.i .i64,.s,.i .i64,.i .i64,.s,.l 157] (fun (d:J.Method)=>(d.Name,d.Static,d.cy,d.Returns.Kind,d.Returns.aq,d.g4,d.g2,d.Code,d.cC,())) (fun (p:(List UInt8) × Bool × (List J.Kind) × Int × (List UInt8) × Int × Int × (List UInt8) × (List J.Handler) × Unit)=>(⟨p.1,p.2.1,p.2.2.1,⟨p.2.2.2.1,p.2.2.2.2.1⟩,p.2.2.2.2.2.1,p.2.2.2.2.2.2.1,p.2.2.2.2.2.2.2.1,p.2.2.2.2.2.2.2.2.1⟩:J.Method)) none none
def H3:List (Σ t,b9 cz t):=⟨131,Xm⟩::H5
def Xo:b9 cz 134 :=eS H3 true [.s,.s,.l 136,.l 131] (fun (d:J.aq)=>(d.Name,d.cS,d.Fields,d.bd,())) (fun (p:(List UInt8) × (List UInt8) × (List J.Field) × (List J.Method) × Unit)=>(⟨p.1,p.2.1,p.2.2.1,p.2.2.2.1⟩:J.aq)) none none
def X3:List (Σ t,b9 cz t):=⟨134,Xo⟩::H3
def Xz:b9 cz 25 :=eS X3 false [.l 134] (fun (d:List J.aq)=>(d,())) (fun (p:(List J.aq) × Unit)=>p.1) none none
def M_:List (Σ t,b9 cz t):=⟨25,Xz⟩::X3
def Xj:b9 cz 124 :=eS M_ false [.l 136] (fun (d:List J.Field)=>(d,())) (fun (p:(List J.Field) × Unit)=>p.1) none none
def XZ:List (Σ t,b9 cz t):=⟨124,Xj⟩::M_
def XA:b9 cz 26 :=eS XZ false [.l 124] (fun (d:List (List J.Field))=>(d,())) (fun (p:(List (List J.Field)) × Unit)=>p.1) none none
def M':List (Σ t,b9 cz t):=⟨26,XA⟩::XZ
def Xh:b9 cz 120 :=eS M' false [.l 9] (fun (d:List (List UInt8))=>(d,())) (fun (p:(List (List UInt8)) × Unit)=>p.1) none none
def XX:List (Σ t,b9 cz t):=⟨120,Xh⟩::M'
def XB:b9 cz 27 :=eS XX false [.l 120] (fun (d:List (List (List UInt8)))=>(d,())) (fun (p:(List (List (List UInt8))) × Unit)=>p.1) none none
def H7:List (Σ t,b9 cz t):=⟨27,XB⟩::XX
def M4:b9 cz 166 :=eS H7 true [.i .i64,.i .i64] (fun (d:J.Target)=>(d.aq,d.Method,())) (fun (p:Int × Int × Unit)=>(⟨p.1,p.2.1⟩:J.Target)) (some fun (d e:J.Target)=>decide (d=e)) none
def M9:List (Σ t,b9 cz t):=⟨166,M4⟩::H7
def Xi:b9 cz 121 :=eS M9 false [.l 166] (fun (d:List J.Target)=>(d,())) (fun (p:(List J.Target) × Unit)=>p.1) none none
def XY:List (Σ t,b9 cz t):=⟨121,Xi⟩::M9
def XC:b9 cz 28 :=eS XY false [.l 121] (fun (d:List (List J.Target))=>(d,())) (fun (p:(List (List J.Target)) × Unit)=>p.1) none none
def Ya:List (Σ t,b9 cz t):=⟨28,XC⟩::XY
def XD:b9 cz 30 :=eS Ya true [.l 134,.l 3,.l 124,.l 120,.l 121] (fun (d:J.aQ)=>(d.bc,d.a8,d.Fields,d.Names,d.a9,())) (fun (p:(List J.aq) × (List Int) × (List (List J.Field)) × (List (List (List UInt8))) × (List (List J.Target)) × Unit)=>(⟨p.1,p.2.1,p.2.2.1,p.2.2.2.1,p.2.2.2.2.1⟩:J.aQ)) none none
def Yc:List (Σ t,b9 cz t):=⟨30,XD⟩::Ya
def XE:b9 cz 31 :=eS Yc false [.i .i64] (fun (d:Int)=>(d,())) (fun (p:Int × Unit)=>p.1) none (some Jd)
def Yd:List (Σ t,b9 cz t):=⟨31,XE⟩::Yc
def XF:b9 cz 69 :=eS Yd true [.l 134,.l 3,.l 124,.l 120,.l 121] (fun (d:J.ch)=>(d.K.bc,d.K.a8,d.K.Fields,d.K.Names,d.K.a9,())) (fun (p:(List J.aq) × (List Int) × (List (List J.Field)) × (List (List (List UInt8))) × (List (List J.Target)) × Unit)=>(⟨⟨p.1,p.2.1,p.2.2.1,p.2.2.2.1,p.2.2.2.2.1⟩⟩:J.ch)) none none
def Yg:List (Σ t,b9 cz t):=⟨69,XF⟩::Yd
def Xk:b9 cz 126 :=eS Yg false [.l 128] (fun (d:List J.Kind)=>(d,())) (fun (p:(List J.Kind) × Unit)=>p.1) none none
def X0:List (Σ t,b9 cz t):=⟨126,Xk⟩::Yg
def Xl:b9 cz 129 :=eS X0 false [.l 157] (fun (d:List J.Handler)=>(d,())) (fun (p:(List J.Handler) × Unit)=>p.1) none none
def X1:List (Σ t,b9 cz t):=⟨129,Xl⟩::X0
def Xn:b9 cz 132 :=eS X1 false [.l 131] (fun (d:List J.Method)=>(d,())) (fun (p:(List J.Method) × Unit)=>p.1) none none
def X2:List (Σ t,b9 cz t):=⟨132,Xn⟩::X1
def Xp:b9 cz 192 :=eS X2 false [.i .i64] (fun (d:Int)=>(d,())) (fun (p:Int × Unit)=>p.1) none (some Jd)
def X4:List (Σ t,b9 cz t):=⟨192,Xp⟩::X2
def Xq:b9 cz 202 :=eS X4 false [.l 22] (fun (d:List (List Int))=>(d,())) (fun (p:(List (List Int)) × Unit)=>p.1) none none
def X5:List (Σ t,b9 cz t):=⟨202,Xq⟩::X4
def Xr:b9 cz 204 :=eS X5 false [.l 5] (fun (d:List UInt8)=>(d,())) (fun (p:(List UInt8) × Unit)=>p.1) none none
def X6:List (Σ t,b9 cz t):=⟨204,Xr⟩::X5
def Xt:b9 cz 219 :=eS X6 false [.y] (fun (d:UInt8)=>(d,())) (fun (p:UInt8 × Unit)=>p.1) none none
def X8:List (Σ t,b9 cz t):=⟨219,Xt⟩::X6
def Xv:b9 cz 220 :=eS X8 false [.y] (fun (d:UInt8)=>(d,())) (fun (p:UInt8 × Unit)=>p.1) none none
def X_:List (Σ t,b9 cz t):=⟨220,Xv⟩::X8
def Xw:b9 cz 223 :=eS X_ false [.i .i32] (fun (d:Int)=>(d,())) (fun (p:Int × Unit)=>p.1) none none
def X':List (Σ t,b9 cz t):=⟨223,Xw⟩::X_
def Xx:b9 cz 224 :=eS X' false [.i .i32] (fun (d:Int)=>(d,())) (fun (p:Int × Unit)=>p.1) none none
def aol:List (Σ t,b9 cz t):=⟨224,Xx⟩::X'
def bQ:b6:=⟨cz,aol⟩
theorem anM:eE bQ 2 al:=eW trivial (fun _=>rfl) (fun h=>by rfl) (fun K h F w xs k ad=>by cases h;obtain ⟨v,vs,rfl,I,rfl⟩:=ad;exact I)
theorem anP:eE bQ 3 aT:=eW trivial (fun _=>rfl) (fun h=>by rfl) (fun K h F w xs k ad=>by cases h;obtain ⟨v,vs,rfl,I,rfl⟩:=ad;exact I)
theorem anR:eE bQ 4 bU:=eW trivial (fun _=>rfl) (fun h=>by rfl) (fun K h=>by cases h)
theorem anS:eE bQ 5 dn:=eW trivial (fun _=>rfl) (fun h=>by rfl) (fun K h=>by cases h)
theorem anU:eE bQ 6 gM:=eW trivial (fun _=>rfl) (fun h=>by rfl) (fun K h=>by cases h)
theorem anW:eE bQ 9 Bj:=eW trivial (fun _=>rfl) (fun h=>by rfl) (fun K h F w xs k ad=>by cases h;obtain ⟨v,vs,rfl,I,rfl⟩:=ad;exact I)
theorem anc:eE bQ 10 Bh:=eW trivial (fun _=>rfl) (fun h=>by rfl) (fun K h F w xs k ad=>by cases h;obtain ⟨v,vs,rfl,I,rfl⟩:=ad;exact I)
theorem ane:eE bQ 11 Bi:=eW trivial (fun _=>rfl) (fun h=>by rfl) (fun K h F w xs k ad=>by cases h;obtain ⟨v,vs,rfl,I,rfl⟩:=ad;exact I)
theorem anC:eE bQ 21 Xs:=eW trivial (fun _=>rfl) (fun h=>by rfl) (fun K h=>by cases h)
theorem anG:eE bQ 22 Xu:=eW ⟨by kernel_rfl,trivial⟩ (fun _=>rfl) (fun h=>by rfl) (fun K h=>by cases h)
theorem anH:eE bQ 24 Xy:=eW ⟨by kernel_rfl,by kernel_rfl,trivial⟩ (fun _=>rfl) (fun h=>by cases h) (fun K h=>by cases h)
theorem anq:eE bQ 136 M2:=eW trivial (fun _=>rfl) (fun h=>by cases h) (fun K h=>by cases h)
theorem ank:eE bQ 128 M1:=eW trivial (fun _=>rfl) (fun h=>by cases h) (fun K h=>by cases h)
theorem ans:eE bQ 157 M3:=eW trivial (fun _=>rfl) (fun h=>by cases h) (fun K h=>by cases h)
theorem ann:eE bQ 131 Xm:=eW ⟨by kernel_rfl,by kernel_rfl,trivial⟩ (fun _=>rfl) (fun h=>by cases h) (fun K h=>by cases h)
theorem anp:eE bQ 134 Xo:=eW ⟨by kernel_rfl,by kernel_rfl,trivial⟩ (fun _=>rfl) (fun h=>by cases h) (fun K h=>by cases h)
theorem anI:eE bQ 25 Xz:=eW ⟨by kernel_rfl,trivial⟩ (fun _=>rfl) (fun h=>by rfl) (fun K h=>by cases h)
theorem ani:eE bQ 124 Xj:=eW ⟨by kernel_rfl,trivial⟩ (fun _=>rfl) (fun h=>by rfl) (fun K h=>by cases h)
theorem anJ:eE bQ 26 XA:=eW ⟨by kernel_rfl,trivial⟩ (fun _=>rfl) (fun h=>by rfl) (fun K h=>by cases h)
theorem ang:eE bQ 120 Xh:=eW ⟨by kernel_rfl,trivial⟩ (fun _=>rfl) (fun h=>by rfl) (fun K h=>by cases h)
theorem anK:eE bQ 27 XB:=eW ⟨by kernel_rfl,trivial⟩ (fun _=>rfl) (fun h=>by rfl) (fun K h=>by cases h)
theorem anu:eE bQ 166 M4:=eW trivial (fun _=>rfl) (fun h=>by cases h) (fun K h=>by cases h)
theorem anh:eE bQ 121 Xi:=eW ⟨by kernel_rfl,trivial⟩ (fun _=>rfl) (fun h=>by rfl) (fun K h=>by cases h)
theorem anL:eE bQ 28 XC:=eW ⟨by kernel_rfl,trivial⟩ (fun _=>rfl) (fun h=>by rfl) (fun K h=>by cases h)
theorem anN:eE bQ 30 XD:=eW ⟨by kernel_rfl,by kernel_rfl,by kernel_rfl,by kernel_rfl,by kernel_rfl,trivial⟩ (fun _=>rfl) (fun h=>by cases h) (fun K h=>by cases h)
theorem anO:eE bQ 31 XE:=eW trivial (fun _=>rfl) (fun h=>by rfl) (fun K h F w xs k ad=>by cases h;obtain ⟨v,vs,rfl,I,rfl⟩:=ad;exact I)
theorem anT:eE bQ 69 XF:=eW ⟨by kernel_rfl,by kernel_rfl,by kernel_rfl,by kernel_rfl,by kernel_rfl,trivial⟩ (fun _=>rfl) (fun h=>by cases h) (fun K h=>by cases h)
theorem anj:eE bQ 126 Xk:=eW ⟨by kernel_rfl,trivial⟩ (fun _=>rfl) (fun h=>by rfl) (fun K h=>by cases h)
theorem anl:eE bQ 129 Xl:=eW ⟨by kernel_rfl,trivial⟩ (fun _=>rfl) (fun h=>by rfl) (fun K h=>by cases h)
theorem ano:eE bQ 132 Xn:=eW ⟨by kernel_rfl,trivial⟩ (fun _=>rfl) (fun h=>by rfl) (fun K h=>by cases h)
theorem anw:eE bQ 192 Xp:=eW trivial (fun _=>rfl) (fun h=>by rfl) (fun K h F w xs k ad=>by cases h;obtain ⟨v,vs,rfl,I,rfl⟩:=ad;exact I)
theorem anz:eE bQ 202 Xq:=eW ⟨by kernel_rfl,trivial⟩ (fun _=>rfl) (fun h=>by rfl) (fun K h=>by cases h)
theorem anA:eE bQ 204 Xr:=eW ⟨by kernel_rfl,trivial⟩ (fun _=>rfl) (fun h=>by rfl) (fun K h=>by cases h)
theorem anB:eE bQ 219 Xt:=eW trivial (fun _=>rfl) (fun h=>by rfl) (fun K h=>by cases h)
theorem anD:eE bQ 220 Xv:=eW trivial (fun _=>rfl) (fun h=>by rfl) (fun K h=>by cases h)
theorem anE:eE bQ 223 Xw:=eW trivial (fun _=>rfl) (fun h=>by rfl) (fun K h=>by cases h)
theorem anF:eE bQ 224 Xx:=eW trivial (fun _=>rfl) (fun h=>by rfl) (fun K h=>by cases h)
theorem ado:u4 bQ:=ay3 ⟨anF,anE,anD,anB,anA,anz,anw,ano,anl,anj,anT,anO,anN,anL,anh,anu,anK,ang,anJ,ani,anI,anp,ann,ans,ank,anq,anH,anG,anC,ane,anc,anW,anU,anS,anR,anP,anM,trivial⟩
end Go.Proofs.YteeliipnilghaaaGreat
namespace Go.Proofs.YteeliipnilghaaaGreat
open Go Go.RowKit ax J bB
noncomputable def aU:Env:=⟨Tryz.prog,bQ,[],false,(List.range 174).drop 2,5,fun l=>l⟩
noncomputable def r4:Env:=⟨Tryz.prog,bQ,[],true,(List.range 174).drop 2,5,fun l=>l⟩
noncomputable def ia:dE aU:=⟨[],[]⟩
theorem avc (a5:du aU) (h:ia.dr):(ia.f 37 ((kI aU.T 3 8).run aU)).dr:=h.FT a5 rfl rfl (by kernel_rfl) (fun a c=>by kernel_rfl) fun d l=>by kernel_rfl
noncomputable def xG:dE aU:=ia.f 37 ((kI aU.T 3 8).run aU)
theorem avd (a5:du aU) (h:xG.dr):(xG.f 108 ((kI aU.T 136 40).run aU)).dr:=h.FT a5 rfl rfl (by kernel_rfl) (fun a c=>by kernel_rfl) fun d l=>by kernel_rfl
noncomputable def o2:dE aU:=xG.f 108 ((kI aU.T 136 40).run aU)
theorem ave (a5:du aU) (h:o2.dr):(o2.f 109 ((kI aU.T 131 128).run aU)).dr:=h.FT a5 rfl rfl (by kernel_rfl) (fun a c=>by kernel_rfl) fun d l=>by kernel_rfl
noncomputable def Md:dE aU:=o2.f 109 ((kI aU.T 131 128).run aU)
theorem avf (a5:du aU) (h:Md.dr):(Md.f 110 ((kI aU.T 128 24).run aU)).dr:=h.FT a5 rfl rfl (by kernel_rfl) (fun a c=>by kernel_rfl) fun d l=>by kernel_rfl
noncomputable def Mf:dE aU:=Md.f 110 ((kI aU.T 128 24).run aU)
theorem avg (a5:du aU) (h:Mf.dr):(Mf.f 111 ((kI aU.T 157 40).run aU)).dr:=h.FT a5 rfl rfl (by kernel_rfl) (fun a c=>by kernel_rfl) fun d l=>by kernel_rfl
noncomputable def ah9:dE aU:=Mf.f 111 ((kI aU.T 157 40).run aU)
end Go.Proofs.YteeliipnilghaaaGreat
namespace Go.Proofs.YteeliipnilghaaaGreat
open Go Go.RowKit ax J bB
theorem avP:xH Tryz.prog bQ 136 M2:=by
 intro f ag F w xs ys d e ad hy o a x y t' b av pz pA w'
 obtain rfl:=Option.some.inj ag
 obtain ⟨_,_,rfl,rfl,_,_,rfl,rfl,_,_,rfl,rfl,rfl⟩:=ad
 obtain ⟨_,_,rfl,rfl,_,_,rfl,rfl,_,_,rfl,rfl,rfl⟩:=hy
 cases b
 · exact aog av pz pA
 · exact aoc av pz pA
theorem avO:xH Tryz.prog bQ 128 M1:=by
 intro f ag F w xs ys d e ad hy o a x y t' b av pz pA w'
 obtain rfl:=Option.some.inj ag
 obtain ⟨_,_,rfl,rfl,_,_,rfl,rfl,rfl⟩:=ad
 obtain ⟨_,_,rfl,rfl,_,_,rfl,rfl,rfl⟩:=hy
 cases b
 · exact aoi av pz pA
 · exact aoe av pz pA
theorem avQ:xH Tryz.prog bQ 157 M3:=by
 intro f ag F w xs ys d e ad hy o a x y t' b av pz pA w'
 obtain rfl:=Option.some.inj ag
 obtain ⟨_,_,rfl,rfl,_,_,rfl,rfl,_,_,rfl,rfl,_,_,rfl,rfl,rfl⟩:=ad
 obtain ⟨_,_,rfl,rfl,_,_,rfl,rfl,_,_,rfl,rfl,_,_,rfl,rfl,rfl⟩:=hy
 cases b
 · exact aoh av pz pA
 · exact aod av pz pA
theorem avR:xH Tryz.prog bQ 166 M4:=by
 intro f ag F w xs ys d e ad hy o a x y t' b av pz pA w'
 obtain rfl:=Option.some.inj ag
 obtain ⟨_,_,rfl,rfl,_,_,rfl,rfl,rfl⟩:=ad
 obtain ⟨_,_,rfl,rfl,_,_,rfl,rfl,rfl⟩:=hy
 cases b
 · exact aoj av pz pA
 · exact aof av pz pA
theorem XS:M8 Tryz.prog bQ bQ.es:=⟨fl rfl,fl rfl,fl rfl,fl rfl,fl rfl,fl rfl,fl rfl,fl rfl,fl rfl,fl rfl,fl rfl,fl rfl,fl rfl,fl rfl,fl rfl,avR,fl rfl,fl rfl,fl rfl,fl rfl,fl rfl,fl rfl,fl rfl,avQ,avO,avP,fl rfl,fl rfl,fl rfl,fl rfl,fl rfl,fl rfl,fl rfl,fl rfl,fl rfl,fl rfl,fl rfl,trivial⟩
theorem YK:JZ Tryz.prog aU.cx=true:=by kernel_rfl
theorem Wn (F:Nat->Prop) (w:World) (l:List UInt8) (xs:List Value) (h:dT KW F w xs l):dT (bQ.ty 5) F w xs l:=by
 refine Km (A:=KW) (B:=bQ.ty 5) (fun cs d h=>?_) h
 change e4 (fun t=>(fK Na t).ty) F w [.y] cs (d,())
 exact ⟨_,_,h,rfl,rfl⟩
theorem pk:du aU:=⟨ado,fun f ag=>abr (Rv YK ag),by kernel_rfl,fun l=>rfl,Wn,fun t=>M7 XS⟩
theorem XP:du r4:=⟨ado,fun f ag=>abr (Rv YK ag),by kernel_rfl,fun l=>rfl,Wn,fun t=>M7 XS⟩
end Go.Proofs.YteeliipnilghaaaGreat
namespace J
def fy (dj:Int) (E':Int) (Fl:Int):Option (Bool):=
 some ((decide (E'<=dj)) && (decide (dj<=Fl)))
def lc (dj:Int) (E':Int) (Fl:Int):Option (Bool):=
 some ((decide (E'<=dj)) && (decide (dj<=Fl)))
def I4 (aR:Int):Option (Bool):=
 some ((decide (aR= 3)) || (decide (aR= 4)))
def y9 (om:List UInt8):Nat->Int->Option (Way (Bool) (Unit))
 | 0,_=>none
 | bM+ 1,wh=>
   cond (decide (wh <(om.length:Int))) ((idx om wh).bind fun Aq=>
   cond (((((decide ((Aq.toNat:Int) < 97)) || (decide (122 <(Aq.toNat:Int)))) && ((decide ((Aq.toNat:Int) < 65)) || (decide (90 <(Aq.toNat:Int))))) && ((decide ((Aq.toNat:Int) < 48)) || (decide (57 <(Aq.toNat:Int))))) && (!decide ((Aq.toNat:Int)= 95))) (some (.out false)) (y9 om bM (aE (wh+ 1)))) (some (.go ()))
def mf (F:Nat) (s_:List UInt8):Option (Bool):=
 (bytesOf s_).bind fun om=>
 cj (α:=Unit) (y9 om F 0) fun (_:Unit)=>
 some ((!decide (s_= [])) && (decide ((s_.length:Int)<= 20)))
def s4 (F:Nat) (aR:Kind):Option (Bool):=
 (I4 aR.Kind).bind fun SU=>
 cond (SU) ((mf F aR.aq).bind fun SY=>
 some SY) (some (((decide (aR.Kind= 1)) || (decide (aR.Kind= 2))) && (decide (aR.aq= []))))
def qB (s_:List UInt8):Nat->Int->Option (Way (Bool) (Unit))
 | 0,_=>none
 | bM+ 1,Q'=>
   cond (decide (Q' <(s_.length:Int))) ((idx s_ Q').bind fun yr=>
   cond (!(((((decide (97 <=(yr.toNat:Int))) && (decide ((yr.toNat:Int)<= 122))) || ((decide (65 <=(yr.toNat:Int))) && (decide ((yr.toNat:Int)<= 90)))) || ((decide (48 <=(yr.toNat:Int))) && (decide ((yr.toNat:Int)<= 57)))) || (decide ((yr.toNat:Int)= 95)))) (some (.out false)) (qB s_ bM (aE (Q'+ 1)))) (some (.go ()))
def mN (F:Nat) (s_:List UInt8):Option (Bool):=
 cj (α:=Unit) (qB s_ F 0) fun (_:Unit)=>
 some ((decide (1 <=(s_.length:Int))) && (decide ((s_.length:Int)<= 20)))
def r' (F:Nat) (aR:Kind):Option (Bool):=
 cond ((decide (aR.Kind= 1)) || (decide (aR.Kind= 2))) (some (decide (aR.aq= []))) (cond ((decide (aR.Kind= 3)) || (decide (aR.Kind= 4))) ((mN F aR.aq).bind fun tP=>
 some tP) (some false))
end J
namespace J
def vM (F:Nat) (m_:Method):Nat->Int->Option (Way (Int) (Unit))
 | 0,_=>none
 | bM+ 1,wq=>
   cond (decide (wq <(m_.cy.length:Int))) ((idx m_.cy wq).bind fun ag0=>
   (s4 F (⟨ag0.Kind,ag0.aq⟩:Kind)).bind fun axk=>
   cond (!axk) (some (.out 7)) (vM F m_ bM (aE (wq+ 1)))) (some (.go ()))
def zb (F:Nat) (m_:Method):Nat->Int->Option (Way (Int) (Unit))
 | 0,_=>none
 | eC+ 1,zB=>
   cond (decide (zB <(m_.cC.length:Int))) ((idx m_.cC zB).bind fun Ll=>
   (mf F Ll.aq).bind fun SN=>
   cond (!SN) (some (.out 1)) ((lc Ll.From 0 200).bind fun oI=>
   cond (!oI) (some (.out 3)) ((lc Ll.To 0 200).bind fun SP=>
   cond (!SP) (some (.out 3)) ((lc Ll.hU 0 200).bind fun SQ=>
   cond (!SQ) (some (.out 3)) (zb F m_ eC (aE (zB+ 1))))))) (some (.go ()))
def pG (F:Nat) (m_:Method):Nat->Int->Option (Way (Int) (Unit))
 | 0,_=>none
 | gS+ 1,kD=>
   cond (decide (kD <(m_.cC.length:Int))) ((idx m_.cC kD).bind fun Lx=>
   (mf F Lx.aq).bind fun awN=>
   cond (!awN) (some (.out 1)) ((lc Lx.From 0 200).bind fun awO=>
   cond (!awO) (some (.out 3)) ((lc Lx.To 0 200).bind fun awP=>
   cond (!awP) (some (.out 3)) ((lc Lx.hU 0 200).bind fun awQ=>
   cond (!awQ) (some (.out 3)) (pG F m_ gS (aE (kD+ 1))))))) (some (.go ()))
def za (F:Nat) (m_:Method):Option (Int):=
 (mf F m_.Name).bind fun zO=>
 cond (!zO) (some 1) (cond (((decide (4 <(m_.cy.length:Int))) || (decide (200 <(m_.Code.length:Int)))) || (decide (4 <(m_.cC.length:Int)))) (some 2) ((lc m_.g4 0 10).bind fun iv=>
 cond (!iv) (some 3) ((lc m_.g2 0 10).bind fun zM=>
 cond (!zM) (some 3) (cj (α:=Unit) (vM F m_ F 0) fun (_:Unit)=>
 cond (!decide ((⟨m_.Returns.Kind,m_.Returns.aq⟩:Kind)=(⟨0,[]⟩:Kind))) ((s4 F (⟨m_.Returns.Kind,m_.Returns.aq⟩:Kind)).bind fun axl=>
 cond (!axl) (some 7) (cj (α:=Unit) (zb F m_ F 0) fun (_:Unit)=>
 some 0)) (cj (α:=Unit) (pG F m_ F 0) fun (_:Unit)=>
 some 0)))))
def y_ (F:Nat) (c_:aq):Nat->Int->Option (Way (Int) (Unit))
 | 0,_=>none
 | bM+ 1,kF=>
   cond (decide (kF <(c_.Fields.length:Int))) ((idx c_.Fields kF).bind fun U2=>
   (mf F U2.Name).bind fun FP=>
   cond (!FP) (some (.out 1)) ((s4 F (⟨U2.Kind.Kind,U2.Kind.aq⟩:Kind)).bind fun FK=>
   cond (!FK) (some (.out 7)) (y_ F c_ bM (aE (kF+ 1))))) (some (.go ()))
def y' (F:Nat) (c_:aq):Nat->Int->Option (Way (Int) (Unit))
 | 0,_=>none
 | eC+ 1,zB=>
   cond (decide (zB <(c_.bd.length:Int))) ((idx c_.bd zB).bind fun ui=>
   (za F (⟨ui.Name,ui.Static,ui.cy,(⟨ui.Returns.Kind,ui.Returns.aq⟩:Kind),ui.g4,ui.g2,ui.Code,ui.cC⟩:Method)).bind fun oI=>
   cond (!decide (oI= 0)) (some (.out oI)) (y' F c_ eC (aE (zB+ 1)))) (some (.go ()))
def s3 (F:Nat) (c_:aq):Nat->Int->Option (Way (Int) (Unit))
 | 0,_=>none
 | gS+ 1,mo=>
   cond (decide (mo <(c_.Fields.length:Int))) ((idx c_.Fields mo).bind fun Ui=>
   (mf F Ui.Name).bind fun awF=>
   cond (!awF) (some (.out 1)) ((s4 F (⟨Ui.Kind.Kind,Ui.Kind.aq⟩:Kind)).bind fun awG=>
   cond (!awG) (some (.out 7)) (s3 F c_ gS (aE (mo+ 1))))) (some (.go ()))
def pF (F:Nat) (c_:aq):Nat->Int->Option (Way (Int) (Unit))
 | 0,_=>none
 | kA+ 1,kE=>
   cond (decide (kE <(c_.bd.length:Int))) ((idx c_.bd kE).bind fun uu=>
   (za F (⟨uu.Name,uu.Static,uu.cy,(⟨uu.Returns.Kind,uu.Returns.aq⟩:Kind),uu.g4,uu.g2,uu.Code,uu.cC⟩:Method)).bind fun acj=>
   cond (!decide (acj= 0)) (some (.out acj)) (pF F c_ kA (aE (kE+ 1)))) (some (.go ()))
def E1 (F:Nat) (c_:aq):Option (Int):=
 (mf F c_.Name).bind fun zO=>
 cond (!zO) (some 1) (cond (!decide (c_.cS= [])) ((mf F c_.cS).bind fun iv=>
 cond (!iv) (some 1) (cond ((decide (6 <(c_.Fields.length:Int))) || (decide (8 <(c_.bd.length:Int)))) (some 2) (cj (α:=Unit) (y_ F c_ F 0) fun (_:Unit)=>
 cj (α:=Unit) (y' F c_ F 0) fun (_:Unit)=>
 some 0))) (cond ((decide (6 <(c_.Fields.length:Int))) || (decide (8 <(c_.bd.length:Int)))) (some 2) (cj (α:=Unit) (s3 F c_ F 0) fun (_:Unit)=>
 cj (α:=Unit) (pF F c_ F 0) fun (_:Unit)=>
 some 0)))
def vL (F:Nat) (a':List aq):Nat->Int->Option (Way (Int) (Unit))
 | 0,_=>none
 | bM+ 1,ww=>
   cond (decide (ww <(a'.length:Int))) ((idx a' ww).bind fun LJ=>
   (E1 F (⟨LJ.Name,LJ.cS,LJ.Fields,LJ.bd⟩:aq)).bind fun acd=>
   cond (!decide (acd= 0)) (some (.out acd)) (vL F a' bM (aE (ww+ 1)))) (some (.go ()))
def E0 (F:Nat) (a':List aq):Option (Int):=
 cond (decide (10 <(a'.length:Int))) (some 2) (cj (α:=Unit) (vL F a' F 0) fun (_:Unit)=>
 some 0)
def x4 (F:Nat) (m_:Method):Nat->Int->Option (Way (Int) (Unit))
 | 0,_=>none
 | bM+ 1,Rj=>
   cond (decide (Rj <(m_.cy.length:Int))) ((idx m_.cy Rj).bind fun aCn=>
   (r' F aCn).bind fun axg=>
   cond (!axg) (some (.out 7)) (x4 F m_ bM (aE (Rj+ 1)))) (some (.go ()))
def x5 (F:Nat) (m_:Method):Nat->Int->Option (Way (Int) (Unit))
 | 0,_=>none
 | eC+ 1,Q7=>
   cond (decide (Q7 <(m_.cC.length:Int))) ((idx m_.cC Q7).bind fun Lk=>
   (mN F Lk.aq).bind fun awx=>
   cond (!awx) (some (.out 1)) ((fy Lk.From 0 200).bind fun awA=>
   cond (!awA) (some (.out 3)) ((fy Lk.To 0 200).bind fun awB=>
   cond (!awB) (some (.out 3)) ((fy Lk.hU 0 200).bind fun awC=>
   cond (!awC) (some (.out 3)) (x5 F m_ eC (aE (Q7+ 1))))))) (some (.go ()))
def x3 (F:Nat) (m_:Method):Option (Int):=
 (mN F m_.Name).bind fun zO=>
 cond (!zO) (some 1) (cond (((decide (4 <(m_.cy.length:Int))) || (decide (200 <(m_.Code.length:Int)))) || (decide (4 <(m_.cC.length:Int)))) (some 2) ((fy m_.g4 0 10).bind fun iv=>
 cond (!iv) (some 3) ((fy m_.g2 0 10).bind fun zM=>
 cond (!zM) (some 3) (cj (α:=Unit) (x4 F m_ F 0) fun (_:Unit)=>
 (r' F (⟨m_.Returns.Kind,m_.Returns.aq⟩:Kind)).bind fun axj=>
 cond ((!axj) && ((!decide (m_.Returns.Kind= 0)) || (!decide (m_.Returns.aq= [])))) (some 7) (cj (α:=Unit) (x5 F m_ F 0) fun (_:Unit)=>
 some 0)))))
def AO (F:Nat) (e5:aq):Nat->Int->Option (Way (Int) (Unit))
 | 0,_=>none
 | eC+ 1,JL=>
   cond (decide (JL <(e5.Fields.length:Int))) ((idx e5.Fields JL).bind fun aBZ=>
   (mN F aBZ.Name).bind fun aw7=>
   cond (!aw7) (some (.out 1)) ((idx e5.Fields JL).bind fun agr=>
   (r' F (⟨agr.Kind.Kind,agr.Kind.aq⟩:Kind)).bind fun aw8=>
   cond (!aw8) (some (.out 7)) (AO F e5 eC (aE (JL+ 1))))) (some (.go ()))
def AP (F:Nat) (e5:aq):Nat->Int->Option (Way (Int) (Unit))
 | 0,_=>none
 | gS+ 1,Rh=>
   cond (decide (Rh <(e5.bd.length:Int))) ((idx e5.bd Rh).bind fun aB0=>
   (x3 F aB0).bind fun acn=>
   cond (!decide (acn= 0)) (some (.out acn)) (AP F e5 gS (aE (Rh+ 1)))) (some (.go ()))
def uO (F:Nat) (e5:aq):Nat->Int->Option (Way (Int) (Unit))
 | 0,_=>none
 | kA+ 1,zE=>
   cond (decide (zE <(e5.Fields.length:Int))) ((idx e5.Fields zE).bind fun aB1=>
   (mN F aB1.Name).bind fun aw9=>
   cond (!aw9) (some (.out 1)) ((idx e5.Fields zE).bind fun agt=>
   (r' F (⟨agt.Kind.Kind,agt.Kind.aq⟩:Kind)).bind fun aw_=>
   cond (!aw_) (some (.out 7)) (uO F e5 kA (aE (zE+ 1))))) (some (.go ()))
def uP (F:Nat) (e5:aq):Nat->Int->Option (Way (Int) (Unit))
 | 0,_=>none
 | q7+ 1,B6=>
   cond (decide (B6 <(e5.bd.length:Int))) ((idx e5.bd B6).bind fun aB2=>
   (x3 F aB2).bind fun aco=>
   cond (!decide (aco= 0)) (some (.out aco)) (uP F e5 q7 (aE (B6+ 1)))) (some (.go ()))
def xO (F:Nat) (a':List aq):Nat->Int->Option (Way (Int) (Unit))
 | 0,_=>none
 | bM+ 1,Rd=>
   cond (decide (Rd <(a'.length:Int))) (cW (α:=Unit) ((idx a' Rd).bind fun e5=>
   (mN F e5.Name).bind fun aw3=>
   cond (!aw3) (some (.out 1)) (cond (!decide (e5.cS= [])) ((mN F e5.cS).bind fun aw4=>
   cond (!aw4) (some (.out 1)) (cond ((decide (6 <(e5.Fields.length:Int))) || (decide (8 <(e5.bd.length:Int)))) (some (.out 2)) (cW (α:=Unit) (AO F e5 F 0) fun (_:Unit)=>
   cW (α:=Unit) (AP F e5 F 0) fun (_:Unit)=>
   some (.go ())))) (cond ((decide (6 <(e5.Fields.length:Int))) || (decide (8 <(e5.bd.length:Int)))) (some (.out 2)) (cW (α:=Unit) (uO F e5 F 0) fun (_:Unit)=>
   cW (α:=Unit) (uP F e5 F 0) fun (_:Unit)=>
   some (.go ()))))) fun (_:Unit)=>
   xO F a' bM (aE (Rd+ 1))) (some (.go ()))
def Dv (F:Nat) (a':List aq):Option (Int):=
 cond (decide (10 <(a'.length:Int))) (some 2) (cj (α:=Unit) (xO F a' F 0) fun (_:Unit)=>
 some 0)
end J
namespace J
def nX (ca:List Kind) (cA:List Kind):Nat->Int->Option (Way (Bool) (Unit))
 | 0,_=>none
 | bM+ 1,cX=>
   cond (decide (cX <(ca.length:Int))) ((idx ca cX).bind fun lG=>
   (idx cA cX).bind fun lH=>
   cond (!decide (lG=lH)) (some (.out false)) (nX ca cA bM (aE (cX+ 1)))) (some (.go ()))
def sb (F:Nat) (ca:List Kind) (cA:List Kind):Option (Bool):=
 cond (!decide ((ca.length:Int)=(cA.length:Int))) (some false) (cj (α:=Unit) (nX ca cA F 0) fun (_:Unit)=>
 some true)
def yc (ca:List Field) (cA:List Field):Nat->Int->Option (Way (Bool) (Unit))
 | 0,_=>none
 | bM+ 1,cX=>
   cond (decide (cX <(ca.length:Int))) ((idx ca cX).bind fun lG=>
   (idx cA cX).bind fun lH=>
   cond (!decide (lG=lH)) (some (.out false)) (yc ca cA bM (aE (cX+ 1)))) (some (.go ()))
def AW (F:Nat) (ca:List Field) (cA:List Field):Option (Bool):=
 cond (!decide ((ca.length:Int)=(cA.length:Int))) (some false) (cj (α:=Unit) (yc ca cA F 0) fun (_:Unit)=>
 some true)
def yb (mD:Method) (nJ:Method):Nat->Int->Option (Way (Bool) (Unit))
 | 0,_=>none
 | gS+ 1,JE=>
   cond (decide (JE <(mD.cC.length:Int))) ((idx mD.cC JE).bind fun aAI=>
   (idx nJ.cC JE).bind fun aAJ=>
   cond (!decide (aAI=aAJ)) (some (.out false)) (yb mD nJ gS (aE (JE+ 1)))) (some (.go ()))
def ya (F:Nat) (uf:aq) (w9:aq):Nat->Int->Option (Way (Bool) (Unit))
 | 0,_=>none
 | eC+ 1,JD=>
   cond (decide (JD <(uf.bd.length:Int))) (cW (α:=Unit) ((idx uf.bd JD).bind fun mD=>
   (idx w9.bd JD).bind fun nJ=>
   cond ((!decide (mD.Name=nJ.Name)) || (!(mD.Static == nJ.Static))) (some (.out false)) ((sb F mD.cy nJ.cy).bind fun awo=>
   cond (!awo) (some (.out false)) (cond (((((!decide ((⟨mD.Returns.Kind,mD.Returns.aq⟩:Kind)=(⟨nJ.Returns.Kind,nJ.Returns.aq⟩:Kind))) || (!decide (mD.g4=nJ.g4))) || (!decide (mD.g2=nJ.g2))) || (!decide (mD.Code=nJ.Code))) || (!decide ((mD.cC.length:Int)=(nJ.cC.length:Int)))) (some (.out false)) (cW (α:=Unit) (yb mD nJ F 0) fun (_:Unit)=>
   some (.go ()))))) fun (_:Unit)=>
   ya F uf w9 eC (aE (JD+ 1))) (some (.go ()))
def x' (F:Nat) (ca:List aq) (cA:List aq):Nat->Int->Option (Way (Bool) (Unit))
 | 0,_=>none
 | bM+ 1,JC=>
   cond (decide (JC <(ca.length:Int))) (cW (α:=Unit) ((idx ca JC).bind fun uf=>
   (idx cA JC).bind fun w9=>
   cond ((!decide (uf.Name=w9.Name)) || (!decide (uf.cS=w9.cS))) (some (.out false)) ((AW F uf.Fields w9.Fields).bind fun awl=>
   cond ((!awl) || (!decide ((uf.bd.length:Int)=(w9.bd.length:Int)))) (some (.out false)) (cW (α:=Unit) (ya F uf w9 F 0) fun (_:Unit)=>
   some (.go ())))) fun (_:Unit)=>
   x' F ca cA bM (aE (JC+ 1))) (some (.go ()))
def AV (F:Nat) (ca:List aq) (cA:List aq):Option (Bool):=
 cond (!decide ((ca.length:Int)=(cA.length:Int))) (some false) (cj (α:=Unit) (x' F ca cA F 0) fun (_:Unit)=>
 some true)
def uY (ca:aQ) (cA:aQ):Nat->Int->Option (Way (Bool) (Unit))
 | 0,_=>none
 | bM+ 1,tK=>
   cond (decide (tK <(ca.a8.length:Int))) ((idx ca.a8 tK).bind fun az5=>
   (idx cA.a8 tK).bind fun T3=>
   cond (!decide (az5=T3)) (some (.out false)) (uY ca cA bM (aE (tK+ 1)))) (some (.go ()))
def yd (F:Nat) (ca:aQ) (cA:aQ):Nat->Int->Option (Way (Bool) (Unit))
 | 0,_=>none
 | eC+ 1,JF=>
   cond (decide (JF <(ca.Fields.length:Int))) ((idx ca.Fields JF).bind fun aAQ=>
   (idx cA.Fields JF).bind fun aAS=>
   (AW F aAQ aAS).bind fun awE=>
   cond (!awE) (some (.out false)) (yd F ca cA eC (aE (JF+ 1)))) (some (.go ()))
def yg (ca:aQ) (cA:aQ) (rn:Int):Nat->Int->Option (Way (Bool) (Unit))
 | 0,_=>none
 | kA+ 1,JJ=>
   (idx ca.Names rn).bind fun aA9=>
   cond (decide (JJ <(aA9.length:Int))) ((idx ca.Names rn).bind fun aA_=>
   (idx aA_ JJ).bind fun aBb=>
   (idx cA.Names rn).bind fun aBd=>
   (idx aBd JJ).bind fun aBf=>
   cond (!decide (aBb=aBf)) (some (.out false)) (yg ca cA rn kA (aE (JJ+ 1)))) (some (.go ()))
def yf (F:Nat) (ca:aQ) (cA:aQ):Nat->Int->Option (Way (Bool) (Unit))
 | 0,_=>none
 | gS+ 1,rn=>
   cond (decide (rn <(ca.Names.length:Int))) (cW (α:=Unit) ((idx ca.Names rn).bind fun aA3=>
   (idx cA.Names rn).bind fun aA4=>
   cond (!decide ((aA3.length:Int)=(aA4.length:Int))) (some (.out false)) (cW (α:=Unit) (yg ca cA rn F 0) fun (_:Unit)=>
   some (.go ()))) fun (_:Unit)=>
   yf F ca cA gS (aE (rn+ 1))) (some (.go ()))
def yi (ca:aQ) (cA:aQ) (rv:Int):Nat->Int->Option (Way (Bool) (Unit))
 | 0,_=>none
 | vQ+ 1,JO=>
   (idx ca.a9 rv).bind fun aCi=>
   cond (decide (JO <(aCi.length:Int))) ((idx ca.a9 rv).bind fun aCj=>
   (idx aCj JO).bind fun aCk=>
   (idx cA.a9 rv).bind fun aCl=>
   (idx aCl JO).bind fun aCm=>
   cond (!decide (aCk=aCm)) (some (.out false)) (yi ca cA rv vQ (aE (JO+ 1)))) (some (.go ()))
def yh (F:Nat) (ca:aQ) (cA:aQ):Nat->Int->Option (Way (Bool) (Unit))
 | 0,_=>none
 | q7+ 1,rv=>
   cond (decide (rv <(ca.a9.length:Int))) (cW (α:=Unit) ((idx ca.a9 rv).bind fun aCg=>
   (idx cA.a9 rv).bind fun aCh=>
   cond (!decide ((aCg.length:Int)=(aCh.length:Int))) (some (.out false)) (cW (α:=Unit) (yi ca cA rv F 0) fun (_:Unit)=>
   some (.go ()))) fun (_:Unit)=>
   yh F ca cA q7 (aE (rv+ 1))) (some (.go ()))
def AX (F:Nat) (ca:aQ) (cA:aQ):Option (Bool):=
 (AV F ca.bc cA.bc).bind fun SS=>
 cond (((((!SS) || (!decide ((cA.a8.length:Int)=(ca.a8.length:Int)))) || (!decide ((ca.Fields.length:Int)=(cA.Fields.length:Int)))) || (!decide ((ca.Names.length:Int)=(cA.Names.length:Int)))) || (!decide ((ca.a9.length:Int)=(cA.a9.length:Int)))) (some false) (cj (α:=Unit) (uY ca cA F 0) fun (_:Unit)=>
 cj (α:=Unit) (yd F ca cA F 0) fun (_:Unit)=>
 cj (α:=Unit) (yf F ca cA F 0) fun (_:Unit)=>
 cj (α:=Unit) (yh F ca cA F 0) fun (_:Unit)=>
 some true)
def x6 (a':List aq) (JR:List UInt8):Nat->Int->Option (Way (Int) (Unit))
 | 0,_=>none
 | bM+ 1,JM=>
   cond (decide (JM <(a'.length:Int))) ((idx a' JM).bind fun aCq=>
   cond (decide (aCq.Name=JR)) (some (.out JM)) (x6 a' JR bM (aE (JM+ 1)))) (some (.go ()))
def mM (F:Nat) (a':List aq) (JR:List UInt8):Option (Int):=
 cj (α:=Unit) (x6 a' JR F 0) fun (_:Unit)=>
 some (-1)
def ym (F:Nat) (a':List aq):Nat->Int->(List Int)->Option (Way (List Int) (List Int))
 | 0,_,_=>none
 | bM+ 1,Q6,Qx=>
   cond (decide (0 <=Q6)) (cond (decide ((a'.length:Int) <(Qx.length:Int))) (some (.out [])) ((bO 8 [Q6] Qx).bind fun aas=>
   (idx a' Q6).bind fun aeF=>
   (mM F a' aeF.cS).bind fun awy=>
   ym F a' bM awy aas)) (some (.go Qx))
def u1 (F:Nat) (a':List aq) (dj:Int):Option (List Int):=
 cj (α:=List Int) (ym F a' F dj []) fun (ass:List Int)=>
 some ass
def u0 (F:Nat) (zi:List Kind) (a':List aq):Nat->Int->Option (Way (Bool) (Unit))
 | 0,_=>none
 | bM+ 1,Fq=>
   cond (decide (Fq <(zi.length:Int))) ((idx zi Fq).bind fun aCK=>
   cond (!decide (aCK.aq= [])) ((idx zi Fq).bind fun aAa=>
   (mM F a' aAa.aq).bind fun awb=>
   cond (decide (awb < 0)) (some (.out false)) (u0 F zi a' bM (aE (Fq+ 1)))) (u0 F zi a' bM (aE (Fq+ 1)))) (some (.go ()))
def yl (F:Nat) (a':List aq) (zi:List Kind):Option (Bool):=
 cj (α:=Unit) (u0 F zi a' F 0) fun (_:Unit)=>
 some true
def qw (a':List aq) (iw:List Int):Nat->(List Field)->Int->Option (List Field)
 | 0,_,_=>none
 | bM+ 1,aat,Ra=>
   cond (decide (Ra <(iw.length:Int))) ((idx iw Ra).bind fun aAT=>
   (idx a' aAT).bind fun aAW=>
   (bO 40 aat aAW.Fields).bind fun asP=>
   qw a' iw bM asP (aE (Ra+ 1))) (some aat)
def xN (F:Nat) (a':List aq) (dj:Int):Option (List Field):=
 (u1 F a' dj).bind fun iw=>
 Option.bind (α:=List Field) (qw a' iw F [] 0) fun (asK:List Field)=>
 some asK
def o6 (kB:List (List UInt8)) (oX:Method):Nat->Int->Option (Int)
 | 0,_=>none
 | gS+ 1,oC=>
   cond (decide (oC <(kB.length:Int))) ((idx kB oC).bind fun aCc=>
   cond (!decide (aCc=oX.Name)) (o6 kB oX gS (aE (oC+ 1))) (some oC)) (some oC)
def yk (F:Nat) (a':List aq) (iw:List Int) (wk:Int):Nat->(List Target)->(List (List UInt8))->Int->Option ((List Target) × (List (List UInt8)))
 | 0,_,_,_=>none
 | eC+ 1,QD,kB,JN=>
   (idx iw wk).bind fun aB_=>
   (idx a' aB_).bind fun aB'=>
   cond (decide (JN <(aB'.bd.length:Int))) (Option.bind (α:=(List Target) × (List (List UInt8))) ((idx iw wk).bind fun aCa=>
   (idx a' aCa).bind fun aCb=>
   (idx aCb.bd JN).bind fun oX=>
   Option.bind (α:=Int) (o6 kB oX F 0) fun (Rl:Int)=>
   Option.bind (α:=(List Target) × (List (List UInt8))) (cond (decide (Rl=(kB.length:Int))) ((bO 16 kB [oX.Name]).bind fun atq=>
   (bO 16 QD [(⟨0,0⟩:Target)]).bind fun atr=>
   some (atr,atq)) (some (QD,kB))) fun ((aaC,atp):(List Target) × (List (List UInt8)))=>
   (idx iw wk).bind fun aCd=>
   (idx aaC Rl).bind fun aEO=>
   (some (aaC.set (Rl).toNat (⟨aCd,JN⟩:Target))).bind fun ats=>
   some (ats,atp)) fun ((atn,ato):(List Target) × (List (List UInt8)))=>
   yk F a' iw wk eC atn ato (aE (JN+ 1))) (some (QD,kB))
def yj (F:Nat) (a':List aq) (iw:List Int):Nat->(List Target)->(List (List UInt8))->Int->Option ((List Target) × (List (List UInt8)))
 | 0,_,_,_=>none
 | bM+ 1,aaz,aaA,wk=>
   cond (decide (wk <(iw.length:Int))) (Option.bind (α:=(List Target) × (List (List UInt8))) (Option.bind (α:=(List Target) × (List (List UInt8))) (yk F a' iw wk F aaz aaA 0) fun ((atl,atm):(List Target) × (List (List UInt8)))=>
   some (atl,atm)) fun ((atj,atk):(List Target) × (List (List UInt8)))=>
   yj F a' iw bM atj atk (aE (wk+ 1))) (some (aaz,aaA))
def Dy (F:Nat) (a':List aq) (dj:Int):Option ((List (List UInt8)) × (List Target)):=
 (u1 F a' dj).bind fun iw=>
 Option.bind (α:=(List Target) × (List (List UInt8))) (yj F a' iw F [] [] 0) fun ((as_,as'):(List Target) × (List (List UInt8)))=>
 some (as',as_)
end J
namespace J
def r9 (F:Nat) (a':List aq):Nat->Int->Option (Way (Int) (Unit))
 | 0,_=>none
 | bM+ 1,kF=>
   cond (decide (kF <(a'.length:Int))) ((idx a' kF).bind fun aCF=>
   (mM F a' aCF.Name).bind fun av_=>
   cond (!decide (av_=kF)) (some (.out 6)) (r9 F a' bM (aE (kF+ 1)))) (some (.go ()))
def xX (a':List aq):Nat->Int->Option (Way (Int) (Unit))
 | 0,_=>none
 | eC+ 1,JG=>
   cond (decide (JG <(a'.length:Int))) ((idx a' JG).bind fun aAR=>
   (idx a' JG).bind fun aAV=>
   cond (!((decide (aAR.Name= [79,98,106,101,99,116])) == (decide (aAV.cS= [])))) (some (.out 4)) (xX a' eC (aE (JG+ 1)))) (some (.go ()))
def uT (F:Nat) (a':List aq):Nat->Int->Option (Way (Int) (Unit))
 | 0,_=>none
 | gS+ 1,Fp=>
   cond (decide (Fp <(a'.length:Int))) ((idx a' Fp).bind fun aBD=>
   cond (!decide (aBD.cS= [])) ((idx a' Fp).bind fun aBN=>
   (mM F a' aBN.cS).bind fun awZ=>
   cond (decide (awZ < 0)) (some (.out 5)) (uT F a' gS (aE (Fp+ 1)))) (uT F a' gS (aE (Fp+ 1)))) (some (.go ()))
def xY (F:Nat) (a':List aq):Nat->Int->Option (Way (Int) (Unit))
 | 0,_=>none
 | kA+ 1,Rg=>
   cond (decide (Rg <(a'.length:Int))) ((u1 F a' Rg).bind fun aw1=>
   cond (decide ((aw1.length:Int)= 0)) (some (.out 4)) (xY F a' kA (aE (Rg+ 1)))) (some (.go ()))
def xZ (F:Nat) (a':List aq) (oB:Int):Nat->Int->Option (Way (Int) (Unit))
 | 0,_=>none
 | vQ+ 1,Q8=>
   (idx a' oB).bind fun aAD=>
   cond (decide (Q8 <(aAD.Fields.length:Int))) ((idx a' oB).bind fun aAE=>
   (idx aAE.Fields Q8).bind fun aeD=>
   (yl F a' [(⟨aeD.Kind.Kind,aeD.Kind.aq⟩:Kind)]).bind fun awm=>
   cond (!awm) (some (.out 5)) (xZ F a' oB vQ (aE (Q8+ 1)))) (some (.go ()))
def x1 (F:Nat) (a':List aq) (xa:Method):Nat->Int->Option (Way (Int) (Unit))
 | 0,_=>none
 | Qr+ 1,Q_=>
   cond (decide (Q_ <(xa.cC.length:Int))) ((idx xa.cC Q_).bind fun aAN=>
   (mM F a' aAN.aq).bind fun awt=>
   cond (decide (awt < 0)) (some (.out 5)) (x1 F a' xa Qr (aE (Q_+ 1)))) (some (.go ()))
def x0 (F:Nat) (a':List aq) (oB:Int):Nat->Int->Option (Way (Int) (Unit))
 | 0,_=>none
 | Jb+ 1,Q9=>
   (idx a' oB).bind fun aAK=>
   cond (decide (Q9 <(aAK.bd.length:Int))) (cW (α:=Unit) ((idx a' oB).bind fun aAL=>
   (idx aAL.bd Q9).bind fun xa=>
   (yl F a' xa.cy).bind fun awr=>
   cond (!awr) (some (.out 5)) ((yl F a' [(⟨xa.Returns.Kind,xa.Returns.aq⟩:Kind)]).bind fun aws=>
   cond (!aws) (some (.out 5)) (cW (α:=Unit) (x1 F a' xa F 0) fun (_:Unit)=>
   some (.go ())))) fun (_:Unit)=>
   x0 F a' oB Jb (aE (Q9+ 1))) (some (.go ()))
def uU (F:Nat) (a':List aq):Nat->Int->Option (Way (Int) (Unit))
 | 0,_=>none
 | q7+ 1,oB=>
   cond (decide (oB <(a'.length:Int))) (cW (α:=Unit) (cW (α:=Unit) (xZ F a' oB F 0) fun (_:Unit)=>
   cW (α:=Unit) (x0 F a' oB F 0) fun (_:Unit)=>
   some (.go ())) fun (_:Unit)=>
   uU F a' q7 (aE (oB+ 1))) (some (.go ()))
def xT (tO:List Field) (zD:Int):Nat->Int->Option (Way (Int) (Unit))
 | 0,_=>none
 | asd+ 1,Rf=>
   cond (decide (Rf <zD)) ((idx tO Rf).bind fun aBq=>
   (idx tO zD).bind fun aBr=>
   cond (decide (aBq.Name=aBr.Name)) (some (.out 6)) (xT tO zD asd (aE (Rf+ 1)))) (some (.go ()))
def xS (F:Nat) (tO:List Field):Nat->Int->Option (Way (Int) (Unit))
 | 0,_=>none
 | asc+ 1,zD=>
   cond (decide (zD <(tO.length:Int))) (cW (α:=Unit) (cW (α:=Unit) (xT tO zD F 0) fun (_:Unit)=>
   some (.go ())) fun (_:Unit)=>
   xS F tO asc (aE (zD+ 1))) (some (.go ()))
def qz (hS:aq) (iq:Int):Nat->Int->Option (Way (Int) (Unit))
 | 0,_=>none
 | asf+ 1,rq=>
   cond (decide (rq <iq)) ((idx hS.bd rq).bind fun aBH=>
   (idx hS.bd iq).bind fun aBI=>
   cond (decide (aBH.Name=aBI.Name)) (some (.out 6)) (qz hS iq asf (aE (rq+ 1)))) (some (.go ()))
def qy (F:Nat) (hS:aq):Nat->Int->Option (Way (Int) (Unit))
 | 0,_=>none
 | ase+ 1,iq=>
   cond (decide (iq <(hS.bd.length:Int))) (cW (α:=Unit) (cW (α:=Unit) (qz hS iq F 0) fun (_:Unit)=>
   some (.go ())) fun (_:Unit)=>
   qy F hS ase (aE (iq+ 1))) (some (.go ()))
def x2 (F:Nat) (a':List aq):Nat->Int->Option (Way (Int) (Unit))
 | 0,_=>none
 | Jc+ 1,JH=>
   cond (decide (JH <(a'.length:Int))) (cW (α:=Unit) ((xN F a' JH).bind fun tO=>
   cW (α:=Unit) (xS F tO F 0) fun (_:Unit)=>
   (idx a' JH).bind fun hS=>
   cW (α:=Unit) (qy F hS F 0) fun (_:Unit)=>
   some (.go ())) fun (_:Unit)=>
   x2 F a' Jc (aE (JH+ 1))) (some (.go ()))
def uS (F:Nat) (a':List aq) (lp:Int) (ns:List Int) (pV:Int) (zH:Int):Nat->Int->Option (Way (Int) (Unit))
 | 0,_=>none
 | aai+ 1,JQ=>
   (idx ns pV).bind fun aCx=>
   (idx a' aCx).bind fun aCy=>
   cond (decide (JQ <(aCy.bd.length:Int))) ((idx a' lp).bind fun aCz=>
   (idx aCz.bd zH).bind fun GZ=>
   (idx ns pV).bind fun aCA=>
   (idx a' aCA).bind fun aCB=>
   (idx aCB.bd JQ).bind fun G0=>
   cond (decide (GZ.Name=G0.Name)) (cond (GZ.Static || G0.Static) (some (.out 4)) ((sb F GZ.cy G0.cy).bind fun axm=>
   cond (!axm) (some (.out 4)) (cond (!decide ((⟨GZ.Returns.Kind,GZ.Returns.aq⟩:Kind)=(⟨G0.Returns.Kind,G0.Returns.aq⟩:Kind))) (some (.out 4)) (uS F a' lp ns pV zH aai (aE (JQ+ 1)))))) (uS F a' lp ns pV zH aai (aE (JQ+ 1)))) (some (.go ()))
def xW (F:Nat) (a':List aq) (lp:Int) (ns:List Int) (pV:Int):Nat->Int->Option (Way (Int) (Unit))
 | 0,_=>none
 | asi+ 1,zH=>
   (idx a' lp).bind fun aCw=>
   cond (decide (zH <(aCw.bd.length:Int))) (cW (α:=Unit) (cW (α:=Unit) (uS F a' lp ns pV zH F 0) fun (_:Unit)=>
   some (.go ())) fun (_:Unit)=>
   xW F a' lp ns pV asi (aE (zH+ 1))) (some (.go ()))
def xV (F:Nat) (a':List aq) (lp:Int) (ns:List Int):Nat->Int->Option (Way (Int) (Unit))
 | 0,_=>none
 | ash+ 1,pV=>
   cond (decide (pV <(aE ((ns.length:Int) - 1)))) (cW (α:=Unit) (cW (α:=Unit) (xW F a' lp ns pV F 0) fun (_:Unit)=>
   some (.go ())) fun (_:Unit)=>
   xV F a' lp ns ash (aE (pV+ 1))) (some (.go ()))
def xU (F:Nat) (a':List aq):Nat->Int->Option (Way (Int) (Unit))
 | 0,_=>none
 | asg+ 1,lp=>
   cond (decide (lp <(a'.length:Int))) (cW (α:=Unit) ((u1 F a' lp).bind fun ns=>
   cW (α:=Unit) (xV F a' lp ns F 0) fun (_:Unit)=>
   some (.go ())) fun (_:Unit)=>
   xU F a' asg (aE (lp+ 1))) (some (.go ()))
def Dw (F:Nat) (a':List aq):Option (Int):=
 (Dv F a').bind fun iw=>
 cond (!decide (iw= 0)) (some iw) (cj (α:=Unit) (r9 F a' F 0) fun (_:Unit)=>
 (mM F a' [79,98,106,101,99,116]).bind fun av'=>
 cond (decide (av' < 0)) (some 5) ((mM F a' [69,114,114,111,114]).bind fun awc=>
 cond (decide (awc < 0)) (some 5) (cj (α:=Unit) (xX a' F 0) fun (_:Unit)=>
 cj (α:=Unit) (uT F a' F 0) fun (_:Unit)=>
 cj (α:=Unit) (xY F a' F 0) fun (_:Unit)=>
 (mM F a' [69,114,114,111,114]).bind fun ack=>
 (xN F a' ack).bind fun acm=>
 (idx a' ack).bind fun aBT=>
 cond ((!decide (aBT.cS= [79,98,106,101,99,116])) || (decide ((acm.length:Int)= 0))) (some 4) ((idx acm 0).bind fun aBW=>
 cond (!decide (aBW.Kind.Kind= 1)) (some 4) (cj (α:=Unit) (uU F a' F 0) fun (_:Unit)=>
 cj (α:=Unit) (x2 F a' F 0) fun (_:Unit)=>
 cj (α:=Unit) (xU F a' F 0) fun (_:Unit)=>
 some 0)))))
def o5 (F:Nat) (a':List aq):Nat->(List (List Target))->(List (List (List UInt8)))->(List (List Field))->(List Int)->Int->Option (Way (aQ × Int) ((List (List Target)) × (List (List (List UInt8))) × (List (List Field)) × (List Int)))
 | 0,_,_,_,_,_=>none
 | bM+ 1,zj,zk,zl,zm,rl=>
   cond (decide (rl <(a'.length:Int))) ((xN F a' rl).bind fun ace=>
   (Dy F a' rl).bind fun SK=>
   cond ((decide (12 <(ace.length:Int))) || (decide (16 <(SK.1.length:Int)))) (some (.out ((⟨[],[],[],[],[]⟩:aQ),2))) ((idx a' rl).bind fun aAH=>
   (mM F a' aAH.cS).bind fun awq=>
   (bO 8 zm [awq]).bind fun asG=>
   (bO 24 zl [ace]).bind fun asH=>
   (bO 24 zk [SK.1]).bind fun asI=>
   (bO 24 zj [SK.2]).bind fun asJ=>
   o5 F a' bM asJ asI asH asG (aE (rl+ 1)))) (some (.go (zj,zk,zl,zm)))
def Dx (F:Nat) (a':List aq):Option (aQ × Int):=
 (Dw F a').bind fun tP=>
 cond (!decide (tP= 0)) (some ((⟨[],[],[],[],[]⟩:aQ),tP)) (cj (α:=(List (List Target)) × (List (List (List UInt8))) × (List (List Field)) × (List Int)) (o5 F a' F [] [] [] [] 0) fun ((asB,asC,asD,asE):(List (List Target)) × (List (List (List UInt8))) × (List (List Field)) × (List Int))=>
 some ((⟨a',asE,asD,asC,asB⟩:aQ),0))
end J
namespace J
def ng (aO:bn):Nat->(List ((List UInt8) × Int))->Int->Option (Way (Int × bn) (List ((List UInt8) × Int)))
 | 0,_,_=>none
 | bM+ 1,ni,pU=>
   cond (decide (pU <(aO.l.length:Int))) ((idx aO.l pU).bind fun aho=>
   cond ((dz ni aho.Name).isSome) (some (.out (6,(⟨aO.l,ni,aO.dl⟩:bn)))) (ng aO bM (hD ni aho.Name pU) (aE (pU+ 1)))) (some (.go ni))
def BX (F:Nat) (aO:bn):Option (Int × bn):=
 cj (α:=List ((List UInt8) × Int)) (ng aO F aO.b1 0) fun (Ju:List ((List UInt8) × Int))=>
 cond ((!((dz Ju [79,98,106,101,99,116]).isSome)) || (!((dz Ju [69,114,114,111,114]).isSome))) (some (5,(⟨aO.l,Ju,aO.dl⟩:bn))) (some (0,(⟨aO.l,Ju,aO.dl⟩:bn)))
def tu (aO:bn):Nat->Int->Option (Way (Int × bn) (Unit))
 | 0,_=>none
 | bM+ 1,wv=>
   cond (decide (wv <(aO.l.length:Int))) ((idx aO.l wv).bind fun ahm=>
   cond (!((decide (ahm.Name= [79,98,106,101,99,116])) == (decide (ahm.cS= [])))) (some (.out (4,(⟨aO.l,aO.b1,aO.dl⟩:bn)))) (tu aO bM (aE (wv+ 1)))) (some (.go ()))
def lk (aO:bn):Nat->(List Int)->Int->Option (Way (Int × bn) (List Int))
 | 0,_,_=>none
 | eC+ 1,q_,rp=>
   cond (decide (rp <(aO.l.length:Int))) (cW (α:=List Int) ((idx aO.l rp).bind fun UD=>
   cW (α:=Int) (cW (α:=Int) (cond (decide (UD.cS= [])) (some (.go (-1))) (cond (!((dz aO.b1 UD.cS).isSome)) (some (.out (5,(⟨aO.l,aO.b1,q_⟩:bn)))) (some (.go ((dz aO.b1 UD.cS).getD 0))))) fun (auz:Int)=>
   some (.go auz)) fun (Ri:Int)=>
   (bO 8 q_ [Ri]).bind fun QC=>
   some (.go QC)) fun (QB:List Int)=>
   lk aO eC QB (aE (rp+ 1))) (some (.go q_))
def rb (aO:bn) (gT:List Int):Nat->Int->Int->Option (Int)
 | 0,_,_=>none
 | kA+ 1,tE,tF=>
   cond (decide (tF <(aO.l.length:Int))) ((idx gT tE).bind fun T_=>
   cond (decide (T_ < 0)) (some T_) (rb aO gT kA T_ (aE (tF+ 1)))) (some tE)
def pJ (F:Nat) (aO:bn) (gT:List Int):Nat->Int->Option (Way (Int × bn) (Unit))
 | 0,_=>none
 | gS+ 1,rk=>
   cond (decide (rk <(aO.l.length:Int))) (cW (α:=Unit) (Option.bind (α:=Int) (Option.bind (α:=Int) (rb aO gT F rk 0) fun (auv:Int)=>
   some auv) fun (auu:Int)=>
   cond (decide (0 <=auu)) (some (.out (4,(⟨aO.l,aO.b1,gT⟩:bn)))) (some (.go ()))) fun (_:Unit)=>
   pJ F aO gT gS (aE (rk+ 1))) (some (.go ()))
def Jn (F:Nat) (aO:bn):Option (Int × bn):=
 cj (α:=Unit) (tu aO F 0) fun (_:Unit)=>
 cj (α:=List Int) (lk aO F aO.dl 0) fun (gT:List Int)=>
 cj (α:=Unit) (pJ F aO gT F 0) fun (_:Unit)=>
 some (0,(⟨aO.l,aO.b1,gT⟩:bn))
def pL (aO:bn):Nat->(List Int)->Int->Option (List Int)
 | 0,_,_=>none
 | bM+ 1,oj,lm=>
   cond (decide (0 <=lm)) ((bO 8 oj [lm]).bind fun E7=>
   (idx aO.dl lm).bind fun nI=>
   pL aO bM E7 nI) (some oj)
def pK (F:Nat) (aO:bn) (dj:Int):Option (List Int):=
 Option.bind (α:=List Int) (pL aO F [] dj) fun (td:List Int)=>
 some td
def F_ (_:List Int):Option Unit:=some ()
def vV (aO:bn):List Int->(List Field)->Option (List Field)
 | [],j3=>some j3
 | w_::Kt,j3=>
   (idx aO.l w_).bind fun xv=>
   (bO 40 j3 xv.Fields).bind fun Jk=>
   vV aO Kt Jk
def rc (F:Nat) (aO:bn) (dj:Int):Option (List Field):=
 (pK F (⟨aO.l,aO.b1,aO.dl⟩:bn) dj).bind fun tQ=>
 (F_ tQ).bind fun SJ=>
 Option.bind (α:=List Field) (vV aO tQ.reverse []) fun (j3:List Field)=>
 some j3
def Jo (F:Nat) (aO:bn):Option (Int):=
 (rc F (⟨aO.l,aO.b1,aO.dl⟩:bn) ((dz aO.b1 [69,114,114,111,114]).getD 0)).bind fun fB=>
 (idx aO.l ((dz aO.b1 [69,114,114,111,114]).getD 0)).bind fun aAt=>
 cond ((!decide (aAt.cS= [79,98,106,101,99,116])) || (decide ((fB.length:Int)= 0))) (some 4) ((idx fB 0).bind fun aAU=>
 cond (!decide (aAU.Kind.Kind= 1)) (some 4) (some 0))
def zw (aR:Kind) (eD:List (List UInt8)):Option (List (List UInt8)):=
 cond (!decide (aR.aq= [])) ((bO 16 eD [aR.aq]).bind fun atH=>
 some atH) (some eD)
def tx (gn:aq):Nat->(List (List UInt8))->Int->Option (List (List UInt8))
 | 0,_,_=>none
 | eC+ 1,zr,wl=>
   cond (decide (wl <(gn.Fields.length:Int))) ((idx gn.Fields wl).bind fun agu=>
   (zw (⟨agu.Kind.Kind,agu.Kind.aq⟩:Kind) zr).bind fun aw'=>
   tx gn eC aw' (aE (wl+ 1))) (some zr)
def tz (fT:Method):Nat->(List (List UInt8))->Int->Option (List (List UInt8))
 | 0,_,_=>none
 | kA+ 1,zs,wm=>
   cond (decide (wm <(fT.cy.length:Int))) ((idx fT.cy wm).bind fun agv=>
   (zw (⟨agv.Kind,agv.aq⟩:Kind) zs).bind fun axc=>
   tz fT kA axc (aE (wm+ 1))) (some zs)
def pP (fT:Method):Nat->(List (List UInt8))->Int->Option (List (List UInt8))
 | 0,_,_=>none
 | q7+ 1,tj,ry=>
   cond (decide (ry <(fT.cC.length:Int))) ((idx fT.cC ry).bind fun aB8=>
   (bO 16 tj [aB8.aq]).bind fun ath=>
   pP fT q7 ath (aE (ry+ 1))) (some tj)
def pO (F:Nat) (gn:aq):Nat->(List (List UInt8))->Int->Option (List (List UInt8))
 | 0,_,_=>none
 | gS+ 1,ti,ru=>
   cond (decide (ru <(gn.bd.length:Int))) (Option.bind (α:=List (List UInt8)) ((idx gn.bd ru).bind fun fT=>
   Option.bind (α:=List (List UInt8)) (tz fT F ti 0) fun (atf:List (List UInt8))=>
   (zw (⟨fT.Returns.Kind,fT.Returns.aq⟩:Kind) atf).bind fun axd=>
   Option.bind (α:=List (List UInt8)) (pP fT F axd 0) fun (atg:List (List UInt8))=>
   some atg) fun (ate:List (List UInt8))=>
   pO F gn gS ate (aE (ru+ 1))) (some ti)
def tw (F:Nat) (aO:bn):Nat->(List (List UInt8))->Int->Option (List (List UInt8))
 | 0,_,_=>none
 | bM+ 1,zq,wj=>
   cond (decide (wj <(aO.l.length:Int))) (Option.bind (α:=List (List UInt8)) ((idx aO.l wj).bind fun gn=>
   Option.bind (α:=List (List UInt8)) (tx gn F zq 0) fun (atc:List (List UInt8))=>
   Option.bind (α:=List (List UInt8)) (pO F gn F atc 0) fun (atd:List (List UInt8))=>
   some atd) fun (atb:List (List UInt8))=>
   tw F aO bM atb (aE (wj+ 1))) (some zq)
def v5 (aO:bn) (oq:List (List UInt8)):Nat->Int->Option (Way (Int) (Unit))
 | 0,_=>none
 | vQ+ 1,wo=>
   cond (decide (wo <(oq.length:Int))) ((idx oq wo).bind fun aB9=>
   cond (!((dz aO.b1 aB9).isSome)) (some (.out 5)) (v5 aO oq vQ (aE (wo+ 1)))) (some (.go ()))
def Fc (F:Nat) (aO:bn):Option (Int):=
 Option.bind (α:=List (List UInt8)) (tw F aO F [] 0) fun (oq:List (List UInt8))=>
 cj (α:=Unit) (v5 aO oq F 0) fun (_:Unit)=>
 some 0
def v7 (a':List (List UInt8)):Nat->(List ((List UInt8) × Bool))->Int->Option (List ((List UInt8) × Bool))
 | 0,_,_=>none
 | bM+ 1,zx,wg=>
   cond (decide (wg <(a'.length:Int))) ((idx a' wg).bind fun aBV=>
   v7 a' bM (hD zx aBV true) (aE (wg+ 1))) (some zx)
def B0 (F:Nat) (a':List (List UInt8)):Option (Bool):=
 Option.bind (α:=List ((List UInt8) × Bool)) (v7 a' F [] 0) fun (at6:List ((List UInt8) × Bool))=>
 some (decide ((at6.length:Int) <(a'.length:Int)))
def tv (nq:List Field):Nat->(List (List UInt8))->Int->Option (List (List UInt8))
 | 0,_,_=>none
 | eC+ 1,zp,wi=>
   cond (decide (wi <(nq.length:Int))) ((idx nq wi).bind fun aBS=>
   (bO 16 zp [aBS.Name]).bind fun as7=>
   tv nq eC as7 (aE (wi+ 1))) (some zp)
def pN (lF:aq):Nat->(List (List UInt8))->Int->Option (List (List UInt8))
 | 0,_,_=>none
 | gS+ 1,th,rr=>
   cond (decide (rr <(lF.bd.length:Int))) ((idx lF.bd rr).bind fun aBY=>
   (bO 16 th [aBY.Name]).bind fun as9=>
   pN lF gS as9 (aE (rr+ 1))) (some th)
def vZ (F:Nat) (aO:bn):Nat->Int->Option (Way (Int) (Unit))
 | 0,_=>none
 | bM+ 1,tH=>
   cond (decide (tH <(aO.l.length:Int))) (cW (α:=Unit) ((idx aO.l tH).bind fun lF=>
   (rc F (⟨aO.l,aO.b1,aO.dl⟩:bn) tH).bind fun nq=>
   Option.bind (α:=List (List UInt8)) (tv nq F [] 0) fun (as6:List (List UInt8))=>
   Option.bind (α:=List (List UInt8)) (pN lF F [] 0) fun (as8:List (List UInt8))=>
   (B0 F as6).bind fun aw5=>
   cond (aw5) (some (.out 6)) ((B0 F as8).bind fun aw6=>
   cond (aw6) (some (.out 6)) (some (.go ())))) fun (_:Unit)=>
   vZ F aO bM (aE (tH+ 1))) (some (.go ()))
def Fb (F:Nat) (aO:bn):Option (Int):=
 cj (α:=Unit) (vZ F aO F 0) fun (_:Unit)=>
 some 0
def zT (bP:List Kind) (cc:List Kind):Nat->Int->Option (Way (Bool) (Unit))
 | 0,_=>none
 | bM+ 1,cX=>
   cond (decide (cX <(bP.length:Int))) ((idx bP cX).bind fun lG=>
   (idx cc cX).bind fun lH=>
   cond (!decide (lG=lH)) (some (.out false)) (zT bP cc bM (aE (cX+ 1)))) (some (.go ()))
def Gg (F:Nat) (bP:List Kind) (cc:List Kind):Option (Bool):=
 cond (!decide ((bP.length:Int)=(cc.length:Int))) (some false) (cj (α:=Unit) (zT bP cc F 0) fun (_:Unit)=>
 some true)
def Jm (F:Nat) (ca:Method) (cA:Method):Option (Bool):=
 cond ((!ca.Static) && (!cA.Static)) ((Gg F ca.cy cA.cy).bind fun hg=>
 cond (hg) (some (decide ((⟨ca.Returns.Kind,ca.Returns.aq⟩:Kind)=(⟨cA.Returns.Kind,cA.Returns.aq⟩:Kind)))) (some false)) (some false)
def pM (F:Nat) (iH:Method) (kP:aq):Nat->Int->Option (Way (Int) (Unit))
 | 0,_=>none
 | kA+ 1,pS=>
   cond (decide (pS <(kP.bd.length:Int))) ((idx kP.bd pS).bind fun rR=>
   cond (decide (iH.Name=rR.Name)) ((Jm F (⟨iH.Name,iH.Static,iH.cy,(⟨iH.Returns.Kind,iH.Returns.aq⟩:Kind),iH.g4,iH.g2,iH.Code,iH.cC⟩:Method) (⟨rR.Name,rR.Static,rR.cy,(⟨rR.Returns.Kind,rR.Returns.aq⟩:Kind),rR.g4,rR.g2,rR.Code,rR.cC⟩:Method)).bind fun awD=>
   cond (!awD) (some (.out 4)) (pM F iH kP kA (aE (pS+ 1)))) (pM F iH kP kA (aE (pS+ 1)))) (some (.go ()))
def vY (F:Nat) (aO:bn) (hQ:aq) (uj:Int):Nat->Int->Option (Way (Int) (Unit))
 | 0,_=>none
 | gS+ 1,wb=>
   cond (decide (wb <(hQ.bd.length:Int))) (cW (α:=Unit) ((idx hQ.bd wb).bind fun iH=>
   (idx aO.l uj).bind fun kP=>
   cW (α:=Unit) (pM F iH kP F 0) fun (_:Unit)=>
   some (.go ())) fun (_:Unit)=>
   vY F aO hQ uj gS (aE (wb+ 1))) (some (.go ()))
def vX (F:Nat) (aO:bn) (hQ:aq) (oo:List Int):Nat->Int->Option (Way (Int) (Unit))
 | 0,_=>none
 | eC+ 1,wa=>
   cond (decide (wa <(oo.length:Int))) (cW (α:=Unit) ((idx oo wa).bind fun uj=>
   cW (α:=Unit) (vY F aO hQ uj F 0) fun (_:Unit)=>
   some (.go ())) fun (_:Unit)=>
   vX F aO hQ oo eC (aE (wa+ 1))) (some (.go ()))
def vW (F:Nat) (aO:bn):Nat->Int->Option (Way (Int) (Unit))
 | 0,_=>none
 | bM+ 1,tD=>
   cond (decide (tD <(aO.l.length:Int))) (cW (α:=Unit) ((idx aO.l tD).bind fun hQ=>
   (pK F (⟨aO.l,aO.b1,aO.dl⟩:bn) tD).bind fun SR=>
   (cut SR 1 (SR.length:Int)).bind fun oo=>
   cW (α:=Unit) (vX F aO hQ oo F 0) fun (_:Unit)=>
   some (.go ())) fun (_:Unit)=>
   vW F aO bM (aE (tD+ 1))) (some (.go ()))
def Fa (F:Nat) (aO:bn):Option (Int):=
 cj (α:=Unit) (vW F aO F 0) fun (_:Unit)=>
 some 0
end J
namespace J
def Tt (s_:List Field):Option (List Field):=
 (bO 40 ([]:List Field) s_).bind fun tg=>
 some tg
def Tw (s_:List Method):Option (List Method):=
 (bO 128 ([]:List Method) s_).bind fun tg=>
 some tg
def Tv (s_:List Kind):Option (List Kind):=
 (bO 24 ([]:List Kind) s_).bind fun tg=>
 some tg
def Tu (s_:List Handler):Option (List Handler):=
 (bO 40 ([]:List Handler) s_).bind fun tg=>
 some tg
def rf:Nat->(List Method)->Int->Int->Option (List Method)
 | 0,_,_,_=>none
 | eC+ 1,Ji,aa3,zF=>
   cond (decide (zF <aa3)) ((idx Ji zF).bind fun ag1=>
   (Tv ag1.cy).bind fun axh=>
   (Tu ag1.cC).bind fun axi=>
   (idx Ji zF).bind fun xt=>
   (some (Ji.set (zF).toNat (⟨xt.Name,xt.Static,axh,(⟨xt.Returns.Kind,xt.Returns.aq⟩:Kind),xt.g4,xt.g2,xt.Code,xt.cC⟩:Method))).bind fun aaD=>
   (idx aaD zF).bind fun xu=>
   (some (aaD.set (zF).toNat (⟨xu.Name,xu.Static,xu.cy,(⟨xu.Returns.Kind,xu.Returns.aq⟩:Kind),xu.g4,xu.g2,xu.Code,axi⟩:Method))).bind fun atv=>
   rf eC atv aa3 (aE (zF+ 1))) (some Ji)
def pQ (F:Nat) (a':List aq):Nat->(List aq)->Int->Option (List aq)
 | 0,_,_=>none
 | bM+ 1,zt,wu=>
   cond (decide (wu <(a'.length:Int))) (Option.bind (α:=List aq) ((idx a' wu).bind fun LH=>
   (Tt LH.Fields).bind fun axf=>
   (Tw LH.bd).bind fun acq=>
   Option.bind (α:=List Method) (rf F acq (acq.length:Int) 0) fun (atu:List Method)=>
   (bO 80 zt [(⟨LH.Name,LH.cS,axf,atu⟩:aq)]).bind fun atw=>
   some atw) fun (att:List aq)=>
   pQ F a' bM att (aE (wu+ 1))) (some zt)
def Ff (F:Nat) (a':List aq):Option (List aq):=
 Option.bind (α:=List aq) (pQ F a' F [] 0) fun (ata:List aq)=>
 some ata
def wZ (s_:List (List UInt8)) (aK:List UInt8):Nat->Int->Option (Way (Int) (Unit))
 | 0,_=>none
 | bM+ 1,hd=>
   cond (decide (hd <(s_.length:Int))) ((idx s_ hd).bind fun Ap=>
   cond (decide (aK=Ap)) (some (.out hd)) (wZ s_ aK bM (aE (hd+ 1)))) (some (.go ()))
def Gk (F:Nat) (s_:List (List UInt8)) (aK:List UInt8):Option (Int):=
 cj (α:=Unit) (wZ s_ aK F 0) fun (_:Unit)=>
 some (-1)
def v3 (F:Nat) (eP:Int) (fu:aq):Nat->(List (List UInt8))->(List Target)->Int->Option ((List (List UInt8)) × (List Target))
 | 0,_,_,_=>none
 | eC+ 1,jq,lh,eN=>
   cond (decide (eN <(fu.bd.length:Int))) (Option.bind (α:=(List (List UInt8)) × (List Target)) ((idx fu.bd eN).bind fun fv=>
   (Gk F jq fv.Name).bind fun zP=>
   cond (decide (0 <=zP)) ((idx lh zP).bind fun U1=>
   (some (lh.set (zP).toNat (⟨eP,eN⟩:Target))).bind fun QG=>
   some (jq,QG)) ((bO 16 jq [fv.Name]).bind fun Jj=>
   (bO 16 lh [(⟨eP,eN⟩:Target)]).bind fun q'=>
   some (Jj,q'))) fun ((tp,tq):(List (List UInt8)) × (List Target))=>
   v3 F eP fu eC tp tq (aE (eN+ 1))) (some (jq,lh))
def v0 (F:Nat) (aO:bn):List Int->(List (List UInt8))->(List Target)->Option ((List (List UInt8)) × (List Target))
 | [],j4,j5=>some (j4,j5)
 | eP::Ku,j4,j5=>
   Option.bind (α:=(List (List UInt8)) × (List Target)) ((idx aO.l eP).bind fun fu=>
   Option.bind (α:=(List (List UInt8)) × (List Target)) (v3 F eP fu F j4 j5 0) fun ((tm,tn):(List (List UInt8)) × (List Target))=>
   some (tm,tn)) fun ((tk,tl):(List (List UInt8)) × (List Target))=>
   v0 F aO Ku tk tl
def zv (F:Nat) (aO:bn) (dj:Int):Option ((List (List UInt8)) × (List Target)):=
 (pK F (⟨aO.l,aO.b1,aO.dl⟩:bn) dj).bind fun iv=>
 (F_ iv).bind fun hh=>
 Option.bind (α:=(List (List UInt8)) × (List Target)) (v0 F aO iv.reverse [] []) fun ((j4,j5):(List (List UInt8)) × (List Target))=>
 some (j4,j5)
def mj (F:Nat) (fB:List aq) (hh:Int × bn) (hj:Int × bn):Nat->(List (List Target))->(List (List (List UInt8)))->(List (List Field))->Int->Option (Way (aQ × Int) ((List (List Target)) × (List (List (List UInt8))) × (List (List Field))))
 | 0,_,_,_,_=>none
 | bM+ 1,s9,ta,tc,oA=>
   cond (decide (oA <(fB.length:Int))) ((zv F (⟨fB,hh.2.b1,hj.2.dl⟩:bn) oA).bind fun SI=>
   (rc F (⟨fB,hh.2.b1,hj.2.dl⟩:bn) oA).bind fun awa=>
   (bO 24 tc [awa]).bind fun aap=>
   (bO 24 ta [SI.1]).bind fun ast=>
   (bO 24 s9 [SI.2]).bind fun asu=>
   (idx aap oA).bind fun aAo=>
   cond ((decide (12 <(aAo.length:Int))) || (decide (16 <(SI.1.length:Int)))) (some (.out ((⟨[],[],[],[],[]⟩:aQ),2))) (mj F fB hh hj bM asu ast aap (aE (oA+ 1)))) (some (.go (s9,ta,tc)))
def zu (F:Nat) (a':List aq):Option (aQ × Int):=
 (E0 F a').bind fun tP=>
 cond (!decide (tP= 0)) (some ((⟨[],[],[],[],[]⟩:aQ),tP)) ((Ff F a').bind fun fB=>
 (BX F (⟨fB,[],[]⟩:bn)).bind fun hh=>
 cond (!decide (hh.1 = 0)) (some ((⟨[],[],[],[],[]⟩:aQ),hh.1)) ((Jn F (⟨fB,hh.2.b1,[]⟩:bn)).bind fun hj=>
 cond (!decide (hj.1 = 0)) (some ((⟨[],[],[],[],[]⟩:aQ),hj.1)) ((Jo F (⟨fB,hh.2.b1,hj.2.dl⟩:bn)).bind fun Cp=>
 cond (!decide (Cp= 0)) (some ((⟨[],[],[],[],[]⟩:aQ),Cp)) ((Fc F (⟨fB,hh.2.b1,hj.2.dl⟩:bn)).bind fun mr=>
 cond (!decide (mr= 0)) (some ((⟨[],[],[],[],[]⟩:aQ),mr)) ((Fb F (⟨fB,hh.2.b1,hj.2.dl⟩:bn)).bind fun en=>
 cond (!decide (en= 0)) (some ((⟨[],[],[],[],[]⟩:aQ),en)) ((Fa F (⟨fB,hh.2.b1,hj.2.dl⟩:bn)).bind fun acg=>
 cond (!decide (acg= 0)) (some ((⟨[],[],[],[],[]⟩:aQ),acg)) (cj (α:=(List (List Target)) × (List (List (List UInt8))) × (List (List Field))) (mj F fB hh hj F [] [] [] 0) fun ((QI,QJ,QK):(List (List Target)) × (List (List (List UInt8))) × (List (List Field)))=>
 some ((⟨fB,hj.2.dl,QK,QJ,QI⟩:aQ),0))))))))
def wU (bP:List Int) (cc:List Int):Nat->Int->Option (Way (Bool) (Unit))
 | 0,_=>none
 | bM+ 1,cX=>
   cond (decide (cX <(bP.length:Int))) ((idx bP cX).bind fun lG=>
   (idx cc cX).bind fun lH=>
   cond (!decide (lG=lH)) (some (.out false)) (wU bP cc bM (aE (cX+ 1)))) (some (.go ()))
def Gi (F:Nat) (bP:List Int) (cc:List Int):Option (Bool):=
 cond (!decide ((bP.length:Int)=(cc.length:Int))) (some false) (cj (α:=Unit) (wU bP cc F 0) fun (_:Unit)=>
 some true)
def wS (bP:List Field) (cc:List Field):Nat->Int->Option (Way (Bool) (Unit))
 | 0,_=>none
 | bM+ 1,cX=>
   cond (decide (cX <(bP.length:Int))) ((idx bP cX).bind fun lG=>
   (idx cc cX).bind fun lH=>
   cond (!decide (lG=lH)) (some (.out false)) (wS bP cc bM (aE (cX+ 1)))) (some (.go ()))
def Gf (F:Nat) (bP:List Field) (cc:List Field):Option (Bool):=
 cond (!decide ((bP.length:Int)=(cc.length:Int))) (some false) (cj (α:=Unit) (wS bP cc F 0) fun (_:Unit)=>
 some true)
def wP (F:Nat) (bP:List (List Field)) (cc:List (List Field)):Nat->Int->Option (Way (Bool) (Unit))
 | 0,_=>none
 | bM+ 1,gd=>
   cond (decide (gd <(bP.length:Int))) ((idx bP gd).bind fun GC=>
   (idx cc gd).bind fun z4=>
   (Gf F GC z4).bind fun FL=>
   cond (!FL) (some (.out false)) (wP F bP cc bM (aE (gd+ 1)))) (some (.go ()))
def Gb (F:Nat) (bP:List (List Field)) (cc:List (List Field)):Option (Bool):=
 cond (!decide ((bP.length:Int)=(cc.length:Int))) (some false) (cj (α:=Unit) (wP F bP cc F 0) fun (_:Unit)=>
 some true)
def wV (bP:List (List UInt8)) (cc:List (List UInt8)):Nat->Int->Option (Way (Bool) (Unit))
 | 0,_=>none
 | bM+ 1,cX=>
   cond (decide (cX <(bP.length:Int))) ((idx bP cX).bind fun lG=>
   (idx cc cX).bind fun lH=>
   cond (!decide (lG=lH)) (some (.out false)) (wV bP cc bM (aE (cX+ 1)))) (some (.go ()))
def Gj (F:Nat) (bP:List (List UInt8)) (cc:List (List UInt8)):Option (Bool):=
 cond (!decide ((bP.length:Int)=(cc.length:Int))) (some false) (cj (α:=Unit) (wV bP cc F 0) fun (_:Unit)=>
 some true)
def wR (F:Nat) (bP:List (List (List UInt8))) (cc:List (List (List UInt8))):Nat->Int->Option (Way (Bool) (Unit))
 | 0,_=>none
 | bM+ 1,gd=>
   cond (decide (gd <(bP.length:Int))) ((idx bP gd).bind fun GC=>
   (idx cc gd).bind fun z4=>
   (Gj F GC z4).bind fun FL=>
   cond (!FL) (some (.out false)) (wR F bP cc bM (aE (gd+ 1)))) (some (.go ()))
def Gd (F:Nat) (bP:List (List (List UInt8))) (cc:List (List (List UInt8))):Option (Bool):=
 cond (!decide ((bP.length:Int)=(cc.length:Int))) (some false) (cj (α:=Unit) (wR F bP cc F 0) fun (_:Unit)=>
 some true)
def wT (bP:List Target) (cc:List Target):Nat->Int->Option (Way (Bool) (Unit))
 | 0,_=>none
 | bM+ 1,cX=>
   cond (decide (cX <(bP.length:Int))) ((idx bP cX).bind fun lG=>
   (idx cc cX).bind fun lH=>
   cond (!decide (lG=lH)) (some (.out false)) (wT bP cc bM (aE (cX+ 1)))) (some (.go ()))
def Gh (F:Nat) (bP:List Target) (cc:List Target):Option (Bool):=
 cond (!decide ((bP.length:Int)=(cc.length:Int))) (some false) (cj (α:=Unit) (wT bP cc F 0) fun (_:Unit)=>
 some true)
def wQ (F:Nat) (bP:List (List Target)) (cc:List (List Target)):Nat->Int->Option (Way (Bool) (Unit))
 | 0,_=>none
 | bM+ 1,gd=>
   cond (decide (gd <(bP.length:Int))) ((idx bP gd).bind fun GC=>
   (idx cc gd).bind fun z4=>
   (Gh F GC z4).bind fun FL=>
   cond (!FL) (some (.out false)) (wQ F bP cc bM (aE (gd+ 1)))) (some (.go ()))
def Gc (F:Nat) (bP:List (List Target)) (cc:List (List Target)):Option (Bool):=
 cond (!decide ((bP.length:Int)=(cc.length:Int))) (some false) (cj (α:=Unit) (wQ F bP cc F 0) fun (_:Unit)=>
 some true)
def BZ (F:Nat) (ca:aQ) (cA:aQ):Option (Bool):=
 (Gi F ca.a8 cA.a8).bind fun SS=>
 cond (SS) ((Gb F ca.Fields cA.Fields).bind fun FN=>
 cond (FN) ((Gd F ca.Names cA.Names).bind fun FO=>
 cond (FO) ((Gc F ca.a9 cA.a9).bind fun SV=>
 some SV) (some false)) (some false)) (some false)
def mi (F:Nat) (aR:aQ):Option (Int):=
 (zu F aR.bc).bind fun hg=>
 cond (!decide (hg.2 = 0)) (some 4) ((BZ F (⟨aR.bc,aR.a8,aR.Fields,aR.Names,aR.a9⟩:aQ) (⟨hg.1.bc,hg.1.a8,hg.1.Fields,hg.1.Names,hg.1.a9⟩:aQ)).bind fun awM=>
 cond (!awM) (some 4) (some 0))
def VM:Option (List aq):=
 some [(⟨[79,98,106,101,99,116],[],[],[(⟨[109,97,105,110],true,[],(⟨0,[]⟩:Kind),2,0,[1,0,7,31,27],[]⟩:Method)]⟩:aq),(⟨[69,114,114,111,114],[79,98,106,101,99,116],[(⟨[99,111,100,101],(⟨1,[]⟩:Kind)⟩:Field)],[]⟩:aq)]
end J
namespace J
def qA (F:Nat) (aR:aQ):Option (Int):=
 (Dx F aR.bc).bind fun hg=>
 cond (!decide (hg.2 = 0)) (some 4) ((AX F (⟨aR.bc,aR.a8,aR.Fields,aR.Names,aR.a9⟩:aQ) (⟨hg.1.bc,hg.1.a8,hg.1.Fields,hg.1.Names,hg.1.a9⟩:aQ)).bind fun en=>
 cond (!en) (some 4) (some 0))
end J
namespace J
def m2 (dj:Int) (E':Int) (Fl:Int):Option (Bool):=
 some ((decide (E'<=dj)) && (decide (dj<=Fl)))
def Zo (L6:Int) (zK:Int):Option (aW × Int):=
 (m2 L6 3 2000).bind fun SU=>
 cond (!SU) (some ((⟨[],0,0,0,0,[],0⟩:aW),3)) ((m2 zK 3 2000).bind fun SY=>
 cond (!SY) (some ((⟨[],0,0,0,0,[],0⟩:aW),3)) ((Fk (0 :Int) 8 (aE ((aE (1 +L6))+zK))).bind fun atC=>
 some ((⟨atC,L6,zK,1,aE (L6+ 1),[],1⟩:aW),0)))
def sJ (s_:ch) (gk:Int):Option (Bool):=
 cond ((decide (gk= 1)) || (decide (gk= 2))) (some true) ((m2 gk 3 (aE ((aE (3 +(s_.K.bc.length:Int))) - 1))).bind fun zM=>
 some zM)
def sK (s_:ch) (gk:Int) (dj:Int):Option (Bool):=
 (m2 dj 0 500).bind fun hg=>
 cond (hg) (cond (decide (gk < 3)) (some true) ((idx s_.K.Fields (aE (gk - 3))).bind fun T9=>
 some (decide (dj=(T9.length:Int))))) (some false)
def vz (s_:ch) (gk:Int) (dj:Int):Option (Bool):=
 cond (decide (gk= 2)) (some true) (cond (decide (3 <=gk)) ((idx s_.K.Fields (aE (gk - 3))).bind fun T8=>
 (idx T8 dj).bind fun Ua=>
 some (!decide (Ua.Kind.Kind= 1))) (some false))
def Ph (s_:ch) (gk:Int) (pI:Int):Option (Int):=
 (sJ (⟨(⟨s_.K.bc,s_.K.a8,s_.K.Fields,s_.K.Names,s_.K.a9⟩:aQ)⟩:ch) gk).bind fun hg=>
 cond (!hg) (some 7) ((sK (⟨(⟨s_.K.bc,s_.K.a8,s_.K.Fields,s_.K.Names,s_.K.a9⟩:aQ)⟩:ch) gk pI).bind fun hh=>
 cond (!hh) (some 3) (some 0))
def BE (aC:aW):Option (Int):=
 (m2 aC.ar 3 2000).bind fun zO=>
 cond (!zO) (some 3) ((m2 aC.aV 3 2000).bind fun tQ=>
 cond (!tQ) (some 3) (cond (!decide ((aC.Words.length:Int)=(aE ((aE (1 +aC.ar))+aC.aV)))) (some 1) ((m2 aC.a3 1 (aE (aC.ar+ 1))).bind fun zM=>
 cond (!zM) (some 3) ((m2 aC.a1 (aE (aC.ar+ 1)) (aE ((aE (aC.ar+aC.aV))+ 1))).bind fun awn=>
 cond ((!awn) || (decide (aC.Next < 1))) (some 3) (some 0)))))
def BA (aK:bf) (at_:Int):Option (Bool):=
 some ((decide (0 <at_)) && (decide (at_<=aK.H.ar)))
def Bz (aK:bf) (at_:Int):Option (Bool):=
 some ((dz aK.dS at_).getD false)
def m1 (jc:Int) (aK:bf):Nat->(List Int)->(List (Int × Bool))->Int->Option (Way ((List Int) × Bool × bf) ((List Int) × (List (Int × Bool))))
 | 0,_,_,_=>none
 | bM+ 1,tf,ow,ln=>
   cond (decide (ln <jc)) (cond (decide (jc <(aE (ln+ 3)))) (some (.out ([],false,(⟨(⟨aK.H.Words,aK.H.ar,aK.H.aV,aK.H.a3,aK.H.a1,aK.H.aY,aK.H.Next⟩:aW),(⟨(⟨aK.S.K.bc,aK.S.K.a8,aK.S.K.Fields,aK.S.K.Names,aK.S.K.a9⟩:aQ)⟩:ch),aK.ar,aK.aV,ow⟩:bf)))) ((idx aK.H.Words ln).bind fun aeU=>
   (idx aK.H.Words (aE (ln+ 1))).bind fun Um=>
   (sJ (⟨(⟨aK.S.K.bc,aK.S.K.a8,aK.S.K.Fields,aK.S.K.Names,aK.S.K.a9⟩:aQ)⟩:ch) aeU).bind fun awK=>
   cond (!awK) (some (.out ([],false,(⟨(⟨aK.H.Words,aK.H.ar,aK.H.aV,aK.H.a3,aK.H.a1,aK.H.aY,aK.H.Next⟩:aW),(⟨(⟨aK.S.K.bc,aK.S.K.a8,aK.S.K.Fields,aK.S.K.Names,aK.S.K.a9⟩:aQ)⟩:ch),aK.ar,aK.aV,ow⟩:bf)))) ((sK (⟨(⟨aK.S.K.bc,aK.S.K.a8,aK.S.K.Fields,aK.S.K.Names,aK.S.K.a9⟩:aQ)⟩:ch) aeU Um).bind fun awL=>
   cond ((!awL) || (decide (jc <(aE ((aE (ln+ 3))+Um))))) (some (.out ([],false,(⟨(⟨aK.H.Words,aK.H.ar,aK.H.aV,aK.H.a3,aK.H.a1,aK.H.aY,aK.H.Next⟩:aW),(⟨(⟨aK.S.K.bc,aK.S.K.a8,aK.S.K.Fields,aK.S.K.Names,aK.S.K.a9⟩:aQ)⟩:ch),aK.ar,aK.aV,ow⟩:bf)))) ((bO 8 tf [ln]).bind fun asV=>
   m1 jc aK bM asV (hD ow ln true) (aE (ln+(aE (3 +Um)))))))) (some (.go (tf,ow)))
def k7 (F:Nat) (aK:bf) (from_:Int) (jc:Int):Option ((List Int) × Bool × bf):=
 cj (α:=(List Int) × (List (Int × Bool))) (m1 jc aK F [] aK.dS from_) fun ((asO,at5):(List Int) × (List (Int × Bool)))=>
 some (asO,true,(⟨(⟨aK.H.Words,aK.H.ar,aK.H.aV,aK.H.a3,aK.H.a1,aK.H.aY,aK.H.Next⟩:aW),(⟨(⟨aK.S.K.bc,aK.S.K.a8,aK.S.K.Fields,aK.S.K.Names,aK.S.K.a9⟩:aQ)⟩:ch),aK.ar,aK.aV,at5⟩:bf))
def sL (at_:Int) (aK:bf) (Lm:Int):Nat->(List Int)->Int->Option (List Int)
 | 0,_,_=>none
 | bM+ 1,Qy,JI=>
   cond (decide (JI <Lm)) (Option.bind (α:=List Int) ((idx aK.H.Words at_).bind fun aBz=>
   (vz (⟨(⟨aK.S.K.bc,aK.S.K.a8,aK.S.K.Fields,aK.S.K.Names,aK.S.K.a9⟩:aQ)⟩:ch) aBz JI).bind fun awX=>
   cond (awX) ((bO 8 Qy [aE ((aE (at_+ 3))+JI)]).bind fun as2=>
   some as2) (some Qy)) fun (as0:List Int)=>
   sL at_ aK Lm bM as0 (aE (JI+ 1))) (some Qy)
def ob (F:Nat) (aK:bf) (at_:Int):Option (List Int):=
 (idx aK.H.Words (aE (at_+ 1))).bind fun Lm=>
 Option.bind (α:=List Int) (sL at_ aK Lm F [] 0) fun (asU:List Int)=>
 some asU
def KJ (dj:Int):Option (List Int):=
 Option.bind (α:=Unit) (cond (decide (dj < 0)) ((none:Option (Unit))) (some ())) fun (_:Unit)=>
 cond (decide (0 <(aE (dj - 0)))) ((DC (0 :Int) 8 (aE (dj - 0))).bind fun aEo=>
 some ([]:List Int)) (some [])
def tT (gY:List (List Int)):Nat->Int->Int->Option (Int)
 | 0,_,_=>none
 | bM+ 1,v_,v'=>
   cond (decide (v' <(gY.length:Int))) (Option.bind (α:=Int) ((idx gY v').bind fun aeA=>
   cond (decide ((aE (v_+(aeA.length:Int))) < 0)) ((none:Option (Int))) (some (aE (v_+(aeA.length:Int))))) fun (aup:Int)=>
   tT gY bM aup (aE (v'+ 1))) (some v_)
def tU (gY:List (List Int)):Nat->(List Int)->Int->Option (List Int)
 | 0,_,_=>none
 | eC+ 1,zn,wc=>
   cond (decide (wc <(gY.length:Int))) ((idx gY wc).bind fun aAX=>
   (bO 8 zn aAX).bind fun asQ=>
   tU gY eC asQ (aE (wc+ 1))) (some zn)
def CD (F:Nat) (gY:List (List Int)):Option (List Int):=
 Option.bind (α:=Int) (tT gY F 0 0) fun (auA:Int)=>
 (KJ auA).bind fun awk=>
 Option.bind (α:=List Int) (tU gY F awk 0) fun (asN:List Int)=>
 some asN
def vA (F:Nat) (aK:bf):Option (List Int):=
 (CD F [aK.ar,aK.aV]).bind fun gX=>
 some gX
def HR (aO:Int):Option (Bool):=
 some (!decide (aO=aO))
def HQ (aO:Int) (Vg:Int):Option (Bool):=
 (HR aO).bind fun awz=>
 cond (awz) ((HR Vg).bind fun tP=>
 some ((!tP) || (decide (aO <Vg)))) (some (decide (aO <Vg)))
def KN (aO:Int):Option (Bool):=
 some (!decide (aO=aO))
def rK (p_:Int) (aO:List Int):Nat->Int->Int->Option (Int)
 | 0,_,_=>none
 | bM+ 1,pW,rz=>
   cond (decide (pW <rz)) (Option.bind (α:=Int × Int) ((idx aO (aE (tS (CP (aE (pW+rz))) 1))).bind fun T6=>
   (HQ T6 p_).bind fun awg=>
   cond (awg) (some (aE ((aE (tS (CP (aE (pW+rz))) 1))+ 1),rz)) (some (pW,aE (tS (CP (aE (pW+rz))) 1)))) fun ((aun,auo):Int × Int)=>
   rK p_ aO bM aun auo) (some pW)
def Ga (F:Nat) (aO:List Int) (p_:Int):Option (Int × Bool):=
 Option.bind (α:=Int) (rK p_ aO F 0 (aO.length:Int)) fun (kF:Int)=>
 cond (decide (kF <(aO.length:Int))) ((idx aO kF).bind fun aAA=>
 cond (decide (aAA=p_)) (some (kF,true)) ((idx aO kF).bind fun aAB=>
 (KN aAB).bind fun awi=>
 cond (awi) ((KN p_).bind fun awj=>
 some (kF,awj)) (some (kF,false)))) (some (kF,false))
end J
namespace J
def sM (aK:bf) (gX:List Int):Nat->(List (Int × Bool))->Int->Option (Way (Int) (List (Int × Bool)))
 | 0,_,_=>none
 | bM+ 1,zy,wy=>
   cond (decide (wy <(gX.length:Int))) ((idx gX wy).bind fun T3=>
   (idx aK.H.Words (aE (T3+ 2))).bind fun T4=>
   cond ((decide (T4 < 1)) || (decide (aK.H.Next<=T4))) (some (.out 3)) (sM aK gX bM (hD zy T4 true) (aE (wy+ 1)))) (some (.go zy))
def BB (F:Nat) (aK:bf):Option (Int):=
 (vA F (⟨(⟨aK.H.Words,aK.H.ar,aK.H.aV,aK.H.a3,aK.H.a1,aK.H.aY,aK.H.Next⟩:aW),(⟨(⟨aK.S.K.bc,aK.S.K.a8,aK.S.K.Fields,aK.S.K.Names,aK.S.K.a9⟩:aQ)⟩:ch),aK.ar,aK.aV,aK.dS⟩:bf)).bind fun gX=>
 cj (α:=List (Int × Bool)) (sM aK gX F [] 0) fun (ni:List (Int × Bool))=>
 cond (decide ((ni.length:Int) <(aK.dS.length:Int))) (some 6) (some 0)
def Pj (dj:Int):Option (Bool):=
 some (!decide (dj= 0))
def wX (s_:List Int):Nat->Int->Option (Way (Int) (Unit))
 | 0,_=>none
 | bM+ 1,tJ=>
   cond (decide (tJ <(s_.length:Int))) ((idx s_ tJ).bind fun aB4=>
   (Pj aB4).bind fun axe=>
   cond (axe) (some (.out tJ)) (wX s_ bM (aE (tJ+ 1)))) (some (.go ()))
def KL (F:Nat) (s_:List Int):Option (Int):=
 cj (α:=Unit) (wX s_ F 0) fun (_:Unit)=>
 some (-1)
def KH (F:Nat) (s_:List Int):Option (Bool):=
 (KL F s_).bind fun iw=>
 some (decide (0 <=iw))
def sO (aK:bf) (np:List Int):Nat->Int->Option (Way (Int) (Unit))
 | 0,_=>none
 | eC+ 1,tC=>
   cond (decide (tC <(np.length:Int))) ((idx np tC).bind fun aAu=>
   (idx aK.H.Words aAu).bind fun aem=>
   cond (!decide (aem= 0)) (cond (!((dz aK.dS aem).getD false)) (some (.out 5)) (sO aK np eC (aE (tC+ 1)))) (sO aK np eC (aE (tC+ 1)))) (some (.go ()))
def vB (F:Nat) (aK:bf) (oJ:List Int):Nat->Int->Option (Way (Int) (Unit))
 | 0,_=>none
 | bM+ 1,wx=>
   cond (decide (wx <(oJ.length:Int))) (cW (α:=Unit) ((idx oJ wx).bind fun aAs=>
   (ob F (⟨(⟨aK.H.Words,aK.H.ar,aK.H.aV,aK.H.a3,aK.H.a1,aK.H.aY,aK.H.Next⟩:aW),(⟨(⟨aK.S.K.bc,aK.S.K.a8,aK.S.K.Fields,aK.S.K.Names,aK.S.K.a9⟩:aQ)⟩:ch),aK.ar,aK.aV,aK.dS⟩:bf) aAs).bind fun np=>
   cW (α:=Unit) (sO aK np F 0) fun (_:Unit)=>
   some (.go ())) fun (_:Unit)=>
   vB F aK oJ bM (aE (wx+ 1))) (some (.go ()))
def BD (F:Nat) (aK:bf):Option (Int):=
 (vA F (⟨(⟨aK.H.Words,aK.H.ar,aK.H.aV,aK.H.a3,aK.H.a1,aK.H.aY,aK.H.Next⟩:aW),(⟨(⟨aK.S.K.bc,aK.S.K.a8,aK.S.K.Fields,aK.S.K.Names,aK.S.K.a9⟩:aQ)⟩:ch),aK.ar,aK.aV,aK.dS⟩:bf)).bind fun oJ=>
 cj (α:=Unit) (vB F aK oJ F 0) fun (_:Unit)=>
 (cut aK.H.Words 0 1).bind fun asv=>
 (cut aK.H.Words aK.H.a3 (aE (aK.H.ar+ 1))).bind fun asw=>
 (cut aK.H.Words aK.H.a1 (aK.H.Words.length:Int)).bind fun asx=>
 (CD F [asv,asw,asx]).bind fun awe=>
 (KH F awe).bind fun awf=>
 cond (awf) (some 1) (some 0)
def IH (K3:Int) (eD:bf):Option (Bool):=
 (idx eD.H.Words K3).bind fun aAP=>
 (BA (⟨(⟨eD.H.Words,eD.H.ar,eD.H.aV,eD.H.a3,eD.H.a1,eD.H.aY,eD.H.Next⟩:aW),(⟨(⟨eD.S.K.bc,eD.S.K.a8,eD.S.K.Fields,eD.S.K.Names,eD.S.K.a9⟩:aQ)⟩:ch),eD.ar,eD.aV,eD.dS⟩:bf) aAP).bind fun FO=>
 some FO
def wW (s_:List Int) (ct:bf):Nat->Int->Option (Way (Int) (Unit))
 | 0,_=>none
 | bM+ 1,jr=>
   cond (decide (jr <(s_.length:Int))) ((idx s_ jr).bind fun UU=>
   (IH UU (⟨(⟨ct.H.Words,ct.H.ar,ct.H.aV,ct.H.a3,ct.H.a1,ct.H.aY,ct.H.Next⟩:aW),(⟨(⟨ct.S.K.bc,ct.S.K.a8,ct.S.K.Fields,ct.S.K.Names,ct.S.K.a9⟩:aQ)⟩:ch),ct.ar,ct.aV,ct.dS⟩:bf)).bind fun S0=>
   cond (S0) (some (.out jr)) (wW s_ ct bM (aE (jr+ 1)))) (some (.go ()))
def KK (F:Nat) (s_:List Int) (ct:bf):Option (Int):=
 cj (α:=Unit) (wW s_ ct F 0) fun (_:Unit)=>
 some (-1)
def KG (F:Nat) (s_:List Int) (ct:bf):Option (Bool):=
 (KK F s_ (⟨(⟨ct.H.Words,ct.H.ar,ct.H.aV,ct.H.a3,ct.H.a1,ct.H.aY,ct.H.Next⟩:aW),(⟨(⟨ct.S.K.bc,ct.S.K.a8,ct.S.K.Fields,ct.S.K.Names,ct.S.K.a9⟩:aQ)⟩:ch),ct.ar,ct.aV,ct.dS⟩:bf)).bind fun FM=>
 some (decide (0 <=FM))
def q0 (F:Nat) (aK:bf):Nat->Int->Option (Way (Int) (Unit))
 | 0,_=>none
 | bM+ 1,pR=>
   cond (decide (pR <(aK.H.aY.length:Int))) ((idx aK.H.aY pR).bind fun nI=>
   cond (decide (0 <pR)) ((idx aK.H.aY (aE (pR - 1))).bind fun aAG=>
   cond (decide (nI<=aAG)) (some (.out 4)) (cond (!((dz aK.dS nI).getD false)) (some (.out 4)) ((BA (⟨(⟨aK.H.Words,aK.H.ar,aK.H.aV,aK.H.a3,aK.H.a1,aK.H.aY,aK.H.Next⟩:aW),(⟨(⟨aK.S.K.bc,aK.S.K.a8,aK.S.K.Fields,aK.S.K.Names,aK.S.K.a9⟩:aQ)⟩:ch),aK.ar,aK.aV,aK.dS⟩:bf) nI).bind fun SL=>
   cond (SL) (some (.out 4)) ((ob F (⟨(⟨aK.H.Words,aK.H.ar,aK.H.aV,aK.H.a3,aK.H.a1,aK.H.aY,aK.H.Next⟩:aW),(⟨(⟨aK.S.K.bc,aK.S.K.a8,aK.S.K.Fields,aK.S.K.Names,aK.S.K.a9⟩:aQ)⟩:ch),aK.ar,aK.aV,aK.dS⟩:bf) nI).bind fun SM=>
   cond (decide ((SM.length:Int)= 0)) (some (.out 4)) (q0 F aK bM (aE (pR+ 1))))))) (cond (!((dz aK.dS nI).getD false)) (some (.out 4)) ((BA (⟨(⟨aK.H.Words,aK.H.ar,aK.H.aV,aK.H.a3,aK.H.a1,aK.H.aY,aK.H.Next⟩:aW),(⟨(⟨aK.S.K.bc,aK.S.K.a8,aK.S.K.Fields,aK.S.K.Names,aK.S.K.a9⟩:aQ)⟩:ch),aK.ar,aK.aV,aK.dS⟩:bf) nI).bind fun awv=>
   cond (awv) (some (.out 4)) ((ob F (⟨(⟨aK.H.Words,aK.H.ar,aK.H.aV,aK.H.a3,aK.H.a1,aK.H.aY,aK.H.Next⟩:aW),(⟨(⟨aK.S.K.bc,aK.S.K.a8,aK.S.K.Fields,aK.S.K.Names,aK.S.K.a9⟩:aQ)⟩:ch),aK.ar,aK.aV,aK.dS⟩:bf) nI).bind fun aww=>
   cond (decide ((aww.length:Int)= 0)) (some (.out 4)) (q0 F aK bM (aE (pR+ 1))))))) (some (.go ()))
def sN (F:Nat) (aK:bf):Nat->Int->Option (Way (Int) (Unit))
 | 0,_=>none
 | eC+ 1,tG=>
   cond (decide (tG <(aK.aV.length:Int))) ((idx aK.aV tG).bind fun aeT=>
   (Ga F aK.H.aY aeT).bind fun awH=>
   cond (!awH.2) ((ob F (⟨(⟨aK.H.Words,aK.H.ar,aK.H.aV,aK.H.a3,aK.H.a1,aK.H.aY,aK.H.Next⟩:aW),(⟨(⟨aK.S.K.bc,aK.S.K.a8,aK.S.K.Fields,aK.S.K.Names,aK.S.K.a9⟩:aQ)⟩:ch),aK.ar,aK.aV,aK.dS⟩:bf) aeT).bind fun awI=>
   (KG F awI (⟨(⟨aK.H.Words,aK.H.ar,aK.H.aV,aK.H.a3,aK.H.a1,aK.H.aY,aK.H.Next⟩:aW),(⟨(⟨aK.S.K.bc,aK.S.K.a8,aK.S.K.Fields,aK.S.K.Names,aK.S.K.a9⟩:aQ)⟩:ch),aK.ar,aK.aV,aK.dS⟩:bf)).bind fun awJ=>
   cond (awJ) (some (.out 4)) (sN F aK eC (aE (tG+ 1)))) (sN F aK eC (aE (tG+ 1)))) (some (.go ()))
def BC (F:Nat) (aK:bf):Option (Int):=
 cj (α:=Unit) (q0 F aK F 0) fun (_:Unit)=>
 cj (α:=Unit) (sN F aK F 0) fun (_:Unit)=>
 some 0
end J
namespace J
def q1 (F:Nat) (aC:aW) (aR:aQ):Option ((Option bf) × Int):=
 (BE (⟨aC.Words,aC.ar,aC.aV,aC.a3,aC.a1,aC.aY,aC.Next⟩:aW)).bind fun kH=>
 cond (!decide (kH= 0)) (some ((none:Option bf),kH)) ((k7 F (⟨(⟨aC.Words,aC.ar,aC.aV,aC.a3,aC.a1,aC.aY,aC.Next⟩:aW),(⟨(⟨aR.bc,aR.a8,aR.Fields,aR.Names,aR.a9⟩:aQ)⟩:ch),[],[],[]⟩:bf) 1 aC.a3).bind fun gX=>
 (k7 F (⟨(⟨aC.Words,aC.ar,aC.aV,aC.a3,aC.a1,aC.aY,aC.Next⟩:aW),(⟨(⟨aR.bc,aR.a8,aR.Fields,aR.Names,aR.a9⟩:aQ)⟩:ch),[],[],gX.2.2.dS⟩:bf) (aE (aC.ar+ 1)) aC.a1).bind fun mr=>
 cond ((!gX.2.1) || (!mr.2.1)) (some ((none:Option bf),1)) ((BB F (⟨(⟨aC.Words,aC.ar,aC.aV,aC.a3,aC.a1,aC.aY,aC.Next⟩:aW),(⟨(⟨aR.bc,aR.a8,aR.Fields,aR.Names,aR.a9⟩:aQ)⟩:ch),gX.1,mr.1,mr.2.2.dS⟩:bf)).bind fun ach=>
 cond (!decide (ach= 0)) (some ((none:Option bf),ach)) ((BD F (⟨(⟨aC.Words,aC.ar,aC.aV,aC.a3,aC.a1,aC.aY,aC.Next⟩:aW),(⟨(⟨aR.bc,aR.a8,aR.Fields,aR.Names,aR.a9⟩:aQ)⟩:ch),gX.1,mr.1,mr.2.2.dS⟩:bf)).bind fun Kk=>
 cond (!decide (Kk= 0)) (some ((none:Option bf),Kk)) ((BC F (⟨(⟨aC.Words,aC.ar,aC.aV,aC.a3,aC.a1,aC.aY,aC.Next⟩:aW),(⟨(⟨aR.bc,aR.a8,aR.Fields,aR.Names,aR.a9⟩:aQ)⟩:ch),gX.1,mr.1,mr.2.2.dS⟩:bf)).bind fun Kl=>
 cond (!decide (Kl= 0)) (some ((none:Option bf),Kl)) (some ((some (⟨(⟨aC.Words,aC.ar,aC.aV,aC.a3,aC.a1,aC.aY,aC.Next⟩:aW),(⟨(⟨aR.bc,aR.a8,aR.Fields,aR.Names,aR.a9⟩:aQ)⟩:ch),gX.1,mr.1,mr.2.2.dS⟩:bf)),0))))))
end J
namespace J
def jE (F:Nat) (aC:aW) (aR:aQ):Option ((Option bf) × Int):=
 (mi F (⟨aR.bc,aR.a8,aR.Fields,aR.Names,aR.a9⟩:aQ)).bind fun kH=>
 cond (!decide (kH= 0)) (some ((none:Option bf),kH)) ((q1 F (⟨aC.Words,aC.ar,aC.aV,aC.a3,aC.a1,aC.aY,aC.Next⟩:aW) (⟨aR.bc,aR.a8,aR.Fields,aR.Names,aR.a9⟩:aQ)).bind fun hP=>
 some (hP.1,hP.2))
def KF (s_:List Int):Option (List Int):=
 (bO 8 ([]:List Int) s_).bind fun tg=>
 some tg
def oa (aC:aW):Option (aW):=
 (KF aC.Words).bind fun fB=>
 (KF aC.aY).bind fun hg=>
 some (⟨fB,aC.ar,aC.aV,aC.a3,aC.a1,hg,aC.Next⟩:aW)
def Pg (aC:aW) (gk:Int) (pI:Int) (zK:Bool):Option (Int × Bool × aW):=
 cond (zK) (cond (decide ((aE ((aE ((aE (aC.ar+aC.aV))+ 1)) - aC.a1)) <(aE (3 +pI)))) (some (0,false,(⟨aC.Words,aC.ar,aC.aV,aC.a3,aC.a1,aC.aY,aC.Next⟩:aW))) ((idx aC.Words aC.a1).bind fun aEQ=>
 (some (aC.Words.set (aC.a1).toNat gk)).bind fun aar=>
 (idx aar (aE (aC.a1+ 1))).bind fun eP=>
 (some (aar.set (aE (aC.a1+ 1)).toNat pI)).bind fun aau=>
 (idx aau (aE (aC.a1+ 2))).bind fun aEK=>
 (some (aau.set (aE (aC.a1+ 2)).toNat aC.Next)).bind fun asW=>
 some (aC.a1,true,(⟨asW,aC.ar,aC.aV,aC.a3,aE (aC.a1+(aE (3 +pI))),aC.aY,aE (aC.Next+ 1)⟩:aW)))) (cond (decide ((aE ((aE (aC.ar+ 1)) - aC.a3)) <(aE (3 +pI)))) (some (0,false,(⟨aC.Words,aC.ar,aC.aV,aC.a3,aC.a1,aC.aY,aC.Next⟩:aW))) ((idx aC.Words aC.a3).bind fun aEL=>
 (some (aC.Words.set (aC.a3).toNat gk)).bind fun aax=>
 (idx aax (aE (aC.a3+ 1))).bind fun aEM=>
 (some (aax.set (aE (aC.a3+ 1)).toNat pI)).bind fun aay=>
 (idx aay (aE (aC.a3+ 2))).bind fun aEN=>
 (some (aay.set (aE (aC.a3+ 2)).toNat aC.Next)).bind fun ati=>
 some (aC.a3,true,(⟨ati,aC.ar,aC.aV,aE (aC.a3+(aE (3 +pI))),aC.a1,aC.aY,aE (aC.Next+ 1)⟩:aW))))
def Zn (F:Nat) (aC:aW) (aR:aQ) (gk:Int) (pI:Int) (zK:Bool):Option (aW × Int × Int):=
 (jE F (⟨aC.Words,aC.ar,aC.aV,aC.a3,aC.a1,aC.aY,aC.Next⟩:aW) (⟨aR.bc,aR.a8,aR.Fields,aR.Names,aR.a9⟩:aQ)).bind fun hj=>
 Option.bind (α:=Int) (cond (decide (hj.2 = 0)) ((hj.1).bind fun GU=>
 (Ph (⟨(⟨GU.S.K.bc,GU.S.K.a8,GU.S.K.Fields,GU.S.K.Names,GU.S.K.a9⟩:aQ)⟩:ch) gk pI).bind fun aw2=>
 some aw2) (some hj.2)) fun (aa2:Int)=>
 cond (!decide (aa2= 0)) (some ((⟨[],0,0,0,0,[],0⟩:aW),0,aa2)) ((oa (⟨aC.Words,aC.ar,aC.aV,aC.a3,aC.a1,aC.aY,aC.Next⟩:aW)).bind fun rE=>
 (Pg (⟨rE.Words,rE.ar,rE.aV,rE.a3,rE.a1,rE.aY,rE.Next⟩:aW) gk pI zK).bind fun Cr=>
 cond (!Cr.2.1) (some ((⟨[],0,0,0,0,[],0⟩:aW),0,8)) (some ((⟨Cr.2.2.Words,rE.ar,rE.aV,Cr.2.2.a3,Cr.2.2.a1,rE.aY,Cr.2.2.Next⟩:aW),Cr.1,0)))
end J
namespace J
def sa (ca:List Int) (cA:List Int):Nat->Int->Option (Way (Bool) (Unit))
 | 0,_=>none
 | bM+ 1,cX=>
   cond (decide (cX <(ca.length:Int))) ((idx ca cX).bind fun lG=>
   (idx cA cX).bind fun lH=>
   cond (!decide (lG=lH)) (some (.out false)) (sa ca cA bM (aE (cX+ 1)))) (some (.go ()))
def mO (F:Nat) (ca:List Int) (cA:List Int):Option (Bool):=
 cond (!decide ((ca.length:Int)=(cA.length:Int))) (some false) (cj (α:=Unit) (sa ca cA F 0) fun (_:Unit)=>
 some true)
def Mq (F:Nat) (ca:aW) (cA:aW):Option (Bool):=
 (mO F ca.Words cA.Words).bind fun awd=>
 cond ((((awd && (decide (ca.ar=cA.ar))) && (decide (ca.aV=cA.aV))) && (decide (ca.a3=cA.a3))) && (decide (ca.a1=cA.a1))) ((mO F ca.aY cA.aY).bind fun SJ=>
 some (SJ && (decide (ca.Next=cA.Next)))) (some false)
def xJ (F:Nat) (aC:aW) (e_:Int) (K3:Int) (zZ:aW):Option (Bool):=
 Option.bind (α:=(List Int) × Int × Int × Int × Int × (List Int) × Int) (cond (!decide (K3= 0)) (some ([],0,0,0,0,[],0)) (some (zZ.Words,zZ.ar,zZ.aV,zZ.a3,zZ.a1,zZ.aY,zZ.Next))) fun ((asy,auq,aur,aus,aut,asM,auw):(List Int) × Int × Int × Int × Int × (List Int) × Int)=>
 cond (decide (e_=K3)) ((Mq F (⟨aC.Words,aC.ar,aC.aV,aC.a3,aC.a1,aC.aY,aC.Next⟩:aW) (⟨asy,auq,aur,aus,aut,asM,auw⟩:aW)).bind fun FN=>
 some FN) (some false)
end J
namespace J
def AU (aR:aQ) (gk:Int):Option (Bool):=
 some ((decide (1 <=gk)) && (decide (gk <(aE (3 +(aR.bc.length:Int))))))
def AR (aR:aQ) (gk:Int) (dj:Int):Option (Bool):=
 (fy dj 0 500).bind fun hg=>
 cond (hg) (cond (decide (gk < 3)) (some true) ((idx aR.Fields (aE (gk - 3))).bind fun T9=>
 some (decide (dj=(T9.length:Int))))) (some false)
def qC (aR:aQ) (gk:Int) (dj:Int):Option (Bool):=
 cond (decide (gk= 2)) (some true) (cond (decide (3 <=gk)) ((idx aR.Fields (aE (gk - 3))).bind fun T8=>
 (idx T8 dj).bind fun Ua=>
 some (!decide (Ua.Kind.Kind= 1))) (some false))
def uZ (aC:aW) (aR:aQ) (jc:Int):Nat->(List Int)->Int->Option (Way ((List Int) × Bool) ((List Int) × Int))
 | 0,_,_=>none
 | bM+ 1,aaw,tI=>
   cond (decide (tI <jc)) (cond (decide (jc <(aE (tI+ 3)))) (some (.out ([],false))) ((idx aC.Words tI).bind fun aBh=>
   (AU (⟨aR.bc,aR.a8,aR.Fields,aR.Names,aR.a9⟩:aQ) aBh).bind fun awT=>
   cond (!awT) (some (.out ([],false))) ((idx aC.Words tI).bind fun aBm=>
   (idx aC.Words (aE (tI+ 1))).bind fun aBp=>
   (AR (⟨aR.bc,aR.a8,aR.Fields,aR.Names,aR.a9⟩:aQ) aBm aBp).bind fun awW=>
   cond (!awW) (some (.out ([],false))) ((bO 8 aaw [tI]).bind fun as1=>
   (idx aC.Words (aE (tI+ 1))).bind fun aBK=>
   uZ aC aR jc bM as1 (aE (tI+(aE (3 +aBK)))))))) (some (.go (aaw,tI)))
def o7 (F:Nat) (aC:aW) (aR:aQ) (from_:Int) (jc:Int):Option ((List Int) × Bool):=
 cj (α:=(List Int) × Int) (uZ aC aR jc F [] from_) fun ((asS,auy):(List Int) × Int)=>
 some (asS,decide (auy=jc))
def x7 (a':List Int) (dj:Int):Nat->Int->Option (Way (Bool) (Unit))
 | 0,_=>none
 | bM+ 1,hd=>
   cond (decide (hd <(a'.length:Int))) ((idx a' hd).bind fun Ap=>
   cond (decide (Ap=dj)) (some (.out true)) (x7 a' dj bM (aE (hd+ 1)))) (some (.go ()))
def kX (F:Nat) (a':List Int) (dj:Int):Option (Bool):=
 cj (α:=Unit) (x7 a' dj F 0) fun (_:Unit)=>
 some false
def r_ (at_:Int) (aC:aW) (aR:aQ):Nat->(List Int)->Int->Option (List Int)
 | 0,_,_=>none
 | bM+ 1,Qz,JK=>
   (idx aC.Words (aE (at_+ 1))).bind fun aBO=>
   cond (decide (JK <aBO)) (Option.bind (α:=List Int) ((idx aC.Words at_).bind fun aBR=>
   (qC (⟨aR.bc,aR.a8,aR.Fields,aR.Names,aR.a9⟩:aQ) aBR JK).bind fun aw0=>
   cond (aw0) ((bO 8 Qz [aE ((aE (at_+ 3))+JK)]).bind fun as5=>
   some as5) (some Qz)) fun (as3:List Int)=>
   r_ at_ aC aR bM as3 (aE (JK+ 1))) (some Qz)
def nW (F:Nat) (aC:aW) (aR:aQ) (at_:Int):Option (List Int):=
 Option.bind (α:=List Int) (r_ at_ aC aR F [] 0) fun (asX:List Int)=>
 some asX
def o8 (F:Nat) (aC:aW) (aR:aQ):Option ((List Int) × (List Int) × Bool):=
 (o7 F (⟨aC.Words,aC.ar,aC.aV,aC.a3,aC.a1,aC.aY,aC.Next⟩:aW) (⟨aR.bc,aR.a8,aR.Fields,aR.Names,aR.a9⟩:aQ) 1 aC.a3).bind fun kH=>
 (o7 F (⟨aC.Words,aC.ar,aC.aV,aC.a3,aC.a1,aC.aY,aC.Next⟩:aW) (⟨aR.bc,aR.a8,aR.Fields,aR.Names,aR.a9⟩:aQ) (aE (aC.ar+ 1)) aC.a1).bind fun gX=>
 some (kH.1,gX.1,kH.2 && gX.2)
end J
namespace J
def xP (aC:aW) (hB:List Int):Nat->Int->Option (Way (Int) (Unit))
 | 0,_=>none
 | bM+ 1,Q4=>
   cond (decide (Q4 <(hB.length:Int))) ((idx hB Q4).bind fun T6=>
   (idx aC.Words (aE (T6+ 2))).bind fun z4=>
   (fy z4 1 (aE (aC.Next - 1))).bind fun awh=>
   cond (!awh) (some (.out 3)) (xP aC hB bM (aE (Q4+ 1)))) (some (.go ()))
def xQ (aC:aW) (hB:List Int) (zG:Int):Nat->Int->Option (Way (Int) (Unit))
 | 0,_=>none
 | gS+ 1,Q5=>
   cond (decide (Q5 <zG)) ((idx hB zG).bind fun aAv=>
   (idx aC.Words (aE (aAv+ 2))).bind fun aAw=>
   (idx hB Q5).bind fun aAx=>
   (idx aC.Words (aE (aAx+ 2))).bind fun aAz=>
   cond (decide (aAw=aAz)) (some (.out 6)) (xQ aC hB zG gS (aE (Q5+ 1)))) (some (.go ()))
def uQ (F:Nat) (aC:aW) (hB:List Int):Nat->Int->Option (Way (Int) (Unit))
 | 0,_=>none
 | eC+ 1,zG=>
   cond (decide (zG <(hB.length:Int))) (cW (α:=Unit) (cW (α:=Unit) (xQ aC hB zG F 0) fun (_:Unit)=>
   some (.go ())) fun (_:Unit)=>
   uQ F aC hB eC (aE (zG+ 1))) (some (.go ()))
def uR (F:Nat) (aC:aW) (hB:List Int) (zN:List Int):Nat->Int->Option (Way (Int) (Unit))
 | 0,_=>none
 | q7+ 1,Fo=>
   cond (decide (Fo <(zN.length:Int))) ((idx zN Fo).bind fun aA'=>
   (idx aC.Words aA').bind fun aBa=>
   cond (!decide (aBa= 0)) ((idx zN Fo).bind fun aBc=>
   (idx aC.Words aBc).bind fun aBe=>
   (kX F hB aBe).bind fun awR=>
   cond (!awR) (some (.out 5)) (uR F aC hB zN q7 (aE (Fo+ 1)))) (uR F aC hB zN q7 (aE (Fo+ 1)))) (some (.go ()))
def xR (F:Nat) (aC:aW) (aR:aQ) (hB:List Int):Nat->Int->Option (Way (Int) (Unit))
 | 0,_=>none
 | kA+ 1,Rb=>
   cond (decide (Rb <(hB.length:Int))) (cW (α:=Unit) ((idx hB Rb).bind fun aA7=>
   (nW F (⟨aC.Words,aC.ar,aC.aV,aC.a3,aC.a1,aC.aY,aC.Next⟩:aW) (⟨aR.bc,aR.a8,aR.Fields,aR.Names,aR.a9⟩:aQ) aA7).bind fun zN=>
   cW (α:=Unit) (uR F aC hB zN F 0) fun (_:Unit)=>
   some (.go ())) fun (_:Unit)=>
   xR F aC aR hB kA (aE (Rb+ 1))) (some (.go ()))
def r8 (aC:aW):Nat->Int->Option (Way (Int) (Unit))
 | 0,_=>none
 | vQ+ 1,zC=>
   cond (decide (zC <(aC.Words.length:Int))) ((idx aC.Words zC).bind fun aBg=>
   cond (!decide (aBg= 0)) (cond (decide (zC= 0)) (some (.out 1)) ((fy zC aC.a3 aC.ar).bind fun awS=>
   cond (awS || (decide (aC.a1<=zC))) (some (.out 1)) (r8 aC vQ (aE (zC+ 1))))) (r8 aC vQ (aE (zC+ 1)))) (some (.go ()))
def nU (F:Nat) (aC:aW) (aR:aQ) (en:(List Int) × (List Int) × Bool):Nat->Int->Option (Way (Int) (Unit))
 | 0,_=>none
 | Jb+ 1,j6=>
   cond (decide (j6 <(aC.aY.length:Int))) (cond (decide (0 <j6)) ((idx aC.aY j6).bind fun aBi=>
   (idx aC.aY (aE (j6 - 1))).bind fun aBj=>
   cond (decide (aBi<=aBj)) (some (.out 4)) ((idx aC.aY j6).bind fun aBk=>
   (kX F en.2.1 aBk).bind fun SW=>
   cond (!SW) (some (.out 4)) ((idx aC.aY j6).bind fun Ut=>
   (nW F (⟨aC.Words,aC.ar,aC.aV,aC.a3,aC.a1,aC.aY,aC.Next⟩:aW) (⟨aR.bc,aR.a8,aR.Fields,aR.Names,aR.a9⟩:aQ) Ut).bind fun SX=>
   cond (decide ((SX.length:Int)= 0)) (some (.out 4)) (nU F aC aR en Jb (aE (j6+ 1)))))) ((idx aC.aY j6).bind fun aBl=>
   (kX F en.2.1 aBl).bind fun awU=>
   cond (!awU) (some (.out 4)) ((idx aC.aY j6).bind fun aBn=>
   (nW F (⟨aC.Words,aC.ar,aC.aV,aC.a3,aC.a1,aC.aY,aC.Next⟩:aW) (⟨aR.bc,aR.a8,aR.Fields,aR.Names,aR.a9⟩:aQ) aBn).bind fun awV=>
   cond (decide ((awV.length:Int)= 0)) (some (.out 4)) (nU F aC aR en Jb (aE (j6+ 1)))))) (some (.go ()))
def o4 (F:Nat) (aC:aW) (en:(List Int) × (List Int) × Bool) (h1:Int) (nr:List Int):Nat->Int->Option (Way (Int) (Unit))
 | 0,_=>none
 | Jc+ 1,pT=>
   cond (decide (pT <(nr.length:Int))) ((idx nr pT).bind fun aB5=>
   (idx aC.Words aB5).bind fun aB6=>
   (fy aB6 1 aC.ar).bind fun axa=>
   cond (axa) ((idx en.2.1 h1).bind fun aB7=>
   (kX F aC.aY aB7).bind fun axb=>
   cond (!axb) (some (.out 4)) (o4 F aC en h1 nr Jc (aE (pT+ 1)))) (o4 F aC en h1 nr Jc (aE (pT+ 1)))) (some (.go ()))
def qx (F:Nat) (aC:aW) (aR:aQ) (en:(List Int) × (List Int) × Bool):Nat->Int->Option (Way (Int) (Unit))
 | 0,_=>none
 | Qr+ 1,h1=>
   cond (decide (h1 <(en.2.1.length:Int))) (cW (α:=Unit) ((idx en.2.1 h1).bind fun aB3=>
   (nW F (⟨aC.Words,aC.ar,aC.aV,aC.a3,aC.a1,aC.aY,aC.Next⟩:aW) (⟨aR.bc,aR.a8,aR.Fields,aR.Names,aR.a9⟩:aQ) aB3).bind fun nr=>
   cW (α:=Unit) (o4 F aC en h1 nr F 0) fun (_:Unit)=>
   some (.go ())) fun (_:Unit)=>
   qx F aC aR en Qr (aE (h1+ 1))) (some (.go ()))
def AQ (F:Nat) (aC:aW) (aR:aQ):Option (Int):=
 (fy aC.ar 3 2000).bind fun kH=>
 cond (!kH) (some 3) ((fy aC.aV 3 2000).bind fun hP=>
 cond (!hP) (some 3) (cond (!decide ((aC.Words.length:Int)=(aE ((aE (1 +aC.ar))+aC.aV)))) (some 1) ((fy aC.a3 1 (aE (aC.ar+ 1))).bind fun Cp=>
 cond (!Cp) (some 3) ((fy aC.a1 (aE (aC.ar+ 1)) (aE ((aE (aC.ar+aC.aV))+ 1))).bind fun mr=>
 cond ((!mr) || (decide (aC.Next < 1))) (some 3) ((o8 F (⟨aC.Words,aC.ar,aC.aV,aC.a3,aC.a1,aC.aY,aC.Next⟩:aW) (⟨aR.bc,aR.a8,aR.Fields,aR.Names,aR.a9⟩:aQ)).bind fun en=>
 cond (!en.2.2) (some 1) ((bO 8 ([]:List Int) en.1).bind fun asZ=>
 (bO 8 asZ en.2.1).bind fun hB=>
 cj (α:=Unit) (xP aC hB F 0) fun (_:Unit)=>
 cj (α:=Unit) (uQ F aC hB F 0) fun (_:Unit)=>
 cj (α:=Unit) (xR F aC aR hB F 0) fun (_:Unit)=>
 cj (α:=Unit) (r8 aC F 0) fun (_:Unit)=>
 cj (α:=Unit) (nU F aC aR en F 0) fun (_:Unit)=>
 cj (α:=Unit) (qx F aC aR en F 0) fun (_:Unit)=>
 some 0))))))
def uX (F:Nat) (aC:aW) (aR:aQ):Option (Int):=
 (qA F (⟨aR.bc,aR.a8,aR.Fields,aR.Names,aR.a9⟩:aQ)).bind fun kH=>
 cond (decide (kH= 0)) ((AQ F (⟨aC.Words,aC.ar,aC.aV,aC.a3,aC.a1,aC.aY,aC.Next⟩:aW) (⟨aR.bc,aR.a8,aR.Fields,aR.Names,aR.a9⟩:aQ)).bind fun hP=>
 some hP) (some kH)
end J
namespace J
def Vn (aC:aW):Option (Int):=
 some (aE ((aE ((aE ((aE (aC.ar+aC.aV))+ 1)) - aC.a1)) - (aE (aC.a3 - 1))))
def ah2 (F:Nat) (aC:aW) (aR:aQ):Option (Int × Int):=
 (jE F (⟨aC.Words,aC.ar,aC.aV,aC.a3,aC.a1,aC.aY,aC.Next⟩:aW) (⟨aR.bc,aR.a8,aR.Fields,aR.Names,aR.a9⟩:aQ)).bind fun kH=>
 cond (!decide (kH.2 = 0)) (some (0,kH.2)) ((Vn (⟨aC.Words,aC.ar,aC.aV,aC.a3,aC.a1,aC.aY,aC.Next⟩:aW)).bind fun Kl=>
 some (Kl,0))
def VY (aC:aW):Option (Int):=
 some (aE ((aE ((aE ((aE ((aE (aC.ar+aC.aV))+ 1)) - aC.a1)) - aC.a3))+ 1))
end J
namespace J
def L7 (at_:Int) (eD:bf):Option (Bool):=
 cond (!decide (at_= 0)) ((Bz (⟨(⟨eD.H.Words,eD.H.ar,eD.H.aV,eD.H.a3,eD.H.a1,eD.H.aY,eD.H.Next⟩:aW),(⟨(⟨eD.S.K.bc,eD.S.K.a8,eD.S.K.Fields,eD.S.K.Names,eD.S.K.a9⟩:aQ)⟩:ch),eD.ar,eD.aV,eD.dS⟩:bf) at_).bind fun Cp=>
 some (!Cp)) (some false)
def wY (s_:List Int) (ct:bf):Nat->Int->Option (Way (Int) (Unit))
 | 0,_=>none
 | bM+ 1,jr=>
   cond (decide (jr <(s_.length:Int))) ((idx s_ jr).bind fun UU=>
   (L7 UU (⟨(⟨ct.H.Words,ct.H.ar,ct.H.aV,ct.H.a3,ct.H.a1,ct.H.aY,ct.H.Next⟩:aW),(⟨(⟨ct.S.K.bc,ct.S.K.a8,ct.S.K.Fields,ct.S.K.Names,ct.S.K.a9⟩:aQ)⟩:ch),ct.ar,ct.aV,ct.dS⟩:bf)).bind fun S0=>
   cond (S0) (some (.out jr)) (wY s_ ct bM (aE (jr+ 1)))) (some (.go ()))
def KM (F:Nat) (s_:List Int) (ct:bf):Option (Int):=
 cj (α:=Unit) (wY s_ ct F 0) fun (_:Unit)=>
 some (-1)
def KI (F:Nat) (s_:List Int) (ct:bf):Option (Bool):=
 (KM F s_ (⟨(⟨ct.H.Words,ct.H.ar,ct.H.aV,ct.H.a3,ct.H.a1,ct.H.aY,ct.H.Next⟩:aW),(⟨(⟨ct.S.K.bc,ct.S.K.a8,ct.S.K.Fields,ct.S.K.Names,ct.S.K.a9⟩:aQ)⟩:ch),ct.ar,ct.aV,ct.dS⟩:bf)).bind fun FM=>
 some (decide (0 <=FM))
def xC (F:Nat) (aK:bf) (fH:List Int):Option (Int):=
 cond (decide (1000 <(fH.length:Int))) (some 2) ((KI F fH (⟨(⟨aK.H.Words,aK.H.ar,aK.H.aV,aK.H.a3,aK.H.a1,aK.H.aY,aK.H.Next⟩:aW),(⟨(⟨aK.S.K.bc,aK.S.K.a8,aK.S.K.Fields,aK.S.K.Names,aK.S.K.a9⟩:aQ)⟩:ch),aK.ar,aK.aV,aK.dS⟩:bf)).bind fun FM=>
 cond (FM) (some 5) (some 0))
def nV (F:Nat) (fH:List Int) (hP:(List Int) × (List Int) × Bool):Nat->Int->Option (Way (Int) (Unit))
 | 0,_=>none
 | bM+ 1,mn=>
   cond (decide (mn <(fH.length:Int))) ((idx fH mn).bind fun aAC=>
   cond (!decide (aAC= 0)) ((idx fH mn).bind fun aAF=>
   (kX F hP.1 aAF).bind fun awp=>
   cond (!awp) ((idx fH mn).bind fun aAM=>
   (kX F hP.2.1 aAM).bind fun awu=>
   cond (!awu) (some (.out 5)) (nV F fH hP bM (aE (mn+ 1)))) (nV F fH hP bM (aE (mn+ 1)))) (nV F fH hP bM (aE (mn+ 1)))) (some (.go ()))
def uV (F:Nat) (aC:aW) (aR:aQ) (fH:List Int):Option (Int):=
 cond (decide (1000 <(fH.length:Int))) (some 2) ((o8 F (⟨aC.Words,aC.ar,aC.aV,aC.a3,aC.a1,aC.aY,aC.Next⟩:aW) (⟨aR.bc,aR.a8,aR.Fields,aR.Names,aR.a9⟩:aQ)).bind fun hP=>
 cj (α:=Unit) (nV F fH hP F 0) fun (_:Unit)=>
 some 0)
def Ml (F:Nat) (aC:aW) (aR:aQ) (fH:List Int):Option (Int):=
 (uX F (⟨aC.Words,aC.ar,aC.aV,aC.a3,aC.a1,aC.aY,aC.Next⟩:aW) (⟨aR.bc,aR.a8,aR.Fields,aR.Names,aR.a9⟩:aQ)).bind fun acf=>
 cond (decide (acf= 0)) ((uV F (⟨aC.Words,aC.ar,aC.aV,aC.a3,aC.a1,aC.aY,aC.Next⟩:aW) (⟨aR.bc,aR.a8,aR.Fields,aR.Names,aR.a9⟩:aQ) fH).bind fun gX=>
 some gX) (some acf)
end J
namespace J
def VZ (a':List Int) (dj:Int):Nat->Int->Option (Way (Int) (Unit))
 | 0,_=>none
 | bM+ 1,hd=>
   cond (decide (hd <(a'.length:Int))) ((idx a' hd).bind fun Ap=>
   cond (decide (Ap=dj)) (some (.out hd)) (VZ a' dj bM (aE (hd+ 1)))) (some (.go ()))
def x9 (F:Nat) (a':List Int) (dj:Int):Option (Int):=
 cj (α:=Unit) (VZ a' dj F 0) fun (_:Unit)=>
 some (-1)
def Hu (F:Nat) (at_:Int) (eD:aW) (Kd:List Int):Option (List Int):=
 (fy at_ 1 eD.ar).bind fun hg=>
 cond (hg) ((kX F Kd at_).bind fun hh=>
 cond (!hh) ((bO 8 Kd [at_]).bind fun asL=>
 some asL) (some Kd)) (some Kd)
end J
namespace J
def uL (F:Nat) (at_:Int) (eD:List Int):Option (Int × (List Int)):=
 cond (decide (at_= 0)) (some (0,eD)) ((x9 F eD at_).bind fun fB=>
 cond (decide (fB < 0)) ((bO 8 eD [at_]).bind fun aaq=>
 some (aE ((aE ((aaq.length:Int) - 1))+ 1),aaq)) (some (aE (fB+ 1),eD)))
def VN (F:Nat) (fH:List Int):Nat->(List Int)->(List Int)->Int->Option ((List Int) × (List Int))
 | 0,_,_,_=>none
 | bM+ 1,gT,aav,Rc=>
   cond (decide (Rc <(fH.length:Int))) ((idx fH Rc).bind fun aA8=>
   (uL F aA8 aav).bind fun aci=>
   (bO 8 gT [aci.1]).bind fun asY=>
   VN F fH bM asY aci.2 (aE (Rc+ 1))) (some (gT,aav))
def VO (F:Nat) (aC:aW) (aR:aQ) (uw:Int):Nat->(List Int)->(List Int)->Int->Option ((List Int) × (List Int))
 | 0,_,_,_=>none
 | gS+ 1,aaE,QH,JP=>
   (idx aC.Words (aE (uw+ 1))).bind fun aCC=>
   cond (decide (JP <aCC)) (Option.bind (α:=(List Int) × (List Int)) ((idx aC.Words (aE ((aE (uw+ 3))+JP))).bind fun ahn=>
   Option.bind (α:=(List Int) × Int) ((idx aC.Words uw).bind fun aCD=>
   (qC (⟨aR.bc,aR.a8,aR.Fields,aR.Names,aR.a9⟩:aQ) aCD JP).bind fun axn=>
   cond (axn) ((uL F ahn QH).bind fun acr=>
   some (acr.2,acr.1)) (some (QH,ahn))) fun ((atF,auB):(List Int) × Int)=>
   (bO 8 aaE [auB]).bind fun atG=>
   some (atG,atF)) fun ((atD,atE):(List Int) × (List Int))=>
   VO F aC aR uw gS atD atE (aE (JP+ 1))) (some (aaE,QH))
def qq (F:Nat) (aC:aW) (aR:aQ):Nat->(List Int)->(List Int)->Int->Option ((List Int) × (List Int))
 | 0,_,_,_=>none
 | eC+ 1,aaB,Jh,Rk=>
   cond (decide (Rk <(Jh.length:Int))) (Option.bind (α:=(List Int) × (List Int)) ((idx Jh Rk).bind fun uw=>
   (idx aC.Words uw).bind fun aCr=>
   (idx aC.Words (aE (uw+ 1))).bind fun aCs=>
   (idx aC.Words (aE (uw+ 2))).bind fun aCt=>
   (bO 8 aaB [aCr,aCs,aCt]).bind fun atz=>
   Option.bind (α:=(List Int) × (List Int)) (VO F aC aR uw F atz Jh 0) fun ((atA,atB):(List Int) × (List Int))=>
   some (atA,atB)) fun ((atx,aty):(List Int) × (List Int))=>
   qq F aC aR eC atx aty (aE (Rk+ 1))) (some (aaB,Jh))
def uK (F:Nat) (aC:aW) (aR:aQ) (fH:List Int):Option (List Int):=
 Option.bind (α:=(List Int) × (List Int)) (VN F fH F [] [] 0) fun ((asR,asT):(List Int) × (List Int))=>
 Option.bind (α:=(List Int) × (List Int)) (qq F aC aR F asR asT 0) fun ((as4,aEn):(List Int) × (List Int))=>
 some as4
def Dm (F:Nat) (aC:aW) (aR:aQ) (fH:List Int) (aO:aW) (Q1:List Int):Option (Bool):=
 (uX F (⟨aO.Words,aO.ar,aO.aV,aO.a3,aO.a1,aO.aY,aO.Next⟩:aW) (⟨aR.bc,aR.a8,aR.Fields,aR.Names,aR.a9⟩:aQ)).bind fun FN=>
 cond (decide (FN= 0)) ((uV F (⟨aO.Words,aO.ar,aO.aV,aO.a3,aO.a1,aO.aY,aO.Next⟩:aW) (⟨aR.bc,aR.a8,aR.Fields,aR.Names,aR.a9⟩:aQ) Q1).bind fun FO=>
 cond ((decide (FO= 0)) && (decide ((fH.length:Int)=(Q1.length:Int)))) ((uK F (⟨aC.Words,aC.ar,aC.aV,aC.a3,aC.a1,aC.aY,aC.Next⟩:aW) (⟨aR.bc,aR.a8,aR.Fields,aR.Names,aR.a9⟩:aQ) fH).bind fun SV=>
 (uK F (⟨aO.Words,aO.ar,aO.aV,aO.a3,aO.a1,aO.aY,aO.Next⟩:aW) (⟨aR.bc,aR.a8,aR.Fields,aR.Names,aR.a9⟩:aQ) Q1).bind fun Kk=>
 (mO F SV Kk).bind fun awY=>
 some awY) (some false)) (some false)
end J
namespace Go.Proofs.YteeliipnilghaaaGreat
open Go Go.RowKit ax J bB
@[reducible] noncomputable def aaj (F:Nat):ih bQ:=⟨[.p (.B 0),.p (.i .i64)],[.c 117 [.l 134,.M 1,.l 3],.m 9 3],[.p (.R 2)],[.c 117 [.l 134,.M 1,.l 3],.m 9 3,.r 136 false],List J.Field,
  fun d=>rc F ⟨d.2.1.1,d.2.2.1,d.2.1.2.2.1⟩ d.1.2.1,fun d r=>(((),()),((d.2.1.1,(),d.2.1.2.2.1,()),d.2.2.1,r,()))⟩
@[reducible] noncomputable def aak (F:Nat):ih bQ:=⟨[.p (.B 0),.p (.i .i64)],[.c 117 [.l 134,.M 1,.l 3],.m 9 3],[.p (.R 2),.p (.R 3)],[.c 117 [.l 134,.M 1,.l 3],.m 9 3,.r 9 false,.r 166 false],List (List UInt8) × List J.Target,
  fun d=>zv F ⟨d.2.1.1,d.2.2.1,d.2.1.2.2.1⟩ d.1.2.1,fun d r=>(((),(),()),((d.2.1.1,(),d.2.1.2.2.1,()),d.2.2.1,r.1,r.2,()))⟩
noncomputable def Hg (F:Nat):dE aU:=⟨(83,(aaj F).run aU)::(82,(aak F).run aU)::ah9.ce,[]⟩
end Go.Proofs.YteeliipnilghaaaGreat
namespace Go.Proofs.YteeliipnilghaaaGreat
open Go Go.RowKit ax
set_option maxHeartbeats 4000000
set_option maxRecDepth 20000
theorem WG {W:World} {X:List Nat} {F:Nat} {aO:J.bn} {dj:Int} {r:List Int} {fz:Nat} {fI:hW} {gL:Nat} {hv:Nat} {gC:hW} {g6:Nat} {M0:List Nat} (hm:bq W M0 X W [] [bw.il fz [.q fI gL aO.l,.map (some hv),.q gC g6 aO.dl],cl J.jv fI gL aO.l,bw.map lg (Value.int .i64) hv aO.b1,cl (eY .i64) gC g6 aO.dl]) (h:J.pK F aO dj=some r) :
 Calls Tryz.prog 114 [.c6 fz,.i dj].toArray W (fun e w'=>∃ Vt:Option Addr,∃ Ww:Nat,∃ ahF:List Value,e= .returned (.q Vt Ww r)/\bq W M0 X w' [a7.row 3 1 (.q Vt Ww r) r ahF] [bw.rows (eY .i64) ahF r]):=by
 refine enter Tryz.func114 rfl Tryz.ntmps114 rfl fun a ag=>?_;rw [J.pK] at h;refine n6 [] [] ag fun a ag=>n6 [] [(5,.slice none 0 0)] ag fun a ag=>wp_seq_k fun K sB=>?_;have hm:=hm.Fu (α:=Int) 3 1;have hm:=hm.more (y:=bw.rows (eY .i64) [] []) rfl;obtain ⟨Qo,h,Pr⟩:=J.fZ h
 refine HK (fun a w=>∃ (Di:hW) (DJ:Nat) (td:AL) (LR:mL),Fr ⟨20,[]⟩ [(5,.q Di DJ td)] a/\bq W M0 X w [a7.row 3 1 (.q Di DJ td) td LR] [bw.rows (eY .i64) LR td,bw.il fz [.q fI gL aO.l,.map (some hv),.q gC g6 aO.dl],cl J.jv fI gL aO.l,bw.map lg (Value.int .i64) hv aO.b1,cl (eY .i64) gC g6 aO.dl]/\Qo=td) (fun K sC=>?_) ?_
 · clear Pr;refine ML (fun (bM:Nat) a w=>∃ (AF:hW) (A8:Nat) (oj:AL) (G1:mL) (lm:Int),Fr ⟨20,[]⟩ [(0,.c6 fz),(1,.i lm),(5,.q AF A8 oj)] a/\bq W M0 X w [a7.row 3 1 (.q AF A8 oj) oj G1] [bw.rows (eY .i64) G1 oj,bw.il fz [.q fI gL aO.l,.map (some hv),.q gC g6 aO.dl],cl J.jv fI gL aO.l,bw.map lg (Value.int .i64) hv aO.b1,cl (eY .i64) gC g6 aO.dl]/\J.pL aO bM oj lm=some Qo) F ⟨none,0,[],[],dj,ag.cut,hm,h⟩ ?_ ?_
   · rintro a w ⟨AF,A8,oj,G1,lm,ag,hm,h⟩;exact absurd h (by simp [J.pL])
   rintro bM a w ⟨AF,A8,oj,G1,lm,ag,hm,h⟩ K py;rw [J.pL] at h;refine wp_seq_k fun K D'=>n6 [] [(7,.bool (decide (0 <=lm)))] ag fun a ag=>HM (ag.g rfl) h (fun apP h=>?_) (fun apP h=>?_)
   · refine wp_skip <| D' _ _ <| wp_seq_k fun K Eb=>wp_block <| mQ <| jT 2 [] [(15,.q AF A8 oj),(16,.i lm)] ag fun a ag=>aa' (cs:=[.i lm]) wn (Ay (vs:=[(0,.i lm)]) Tryz.underlying22 Tryz.sizeOf3 Tryz.zeroValue3 rfl rfl rfl ⟨⟨(ag.g rfl),rfl⟩,trivial⟩ (by kernel_rfl)) ag hm rfl rfl fun a aDZ w _ ag hm=>?_;obtain ⟨E7,aqD,h⟩:=J.fZ h;refine F5 (T:=(eY .i64)) (ml:=[lm]) 1 0 0 hm rfl rfl rfl Tryz.underlying22 ar3 rfl rfl aqD rfl rfl ⟨_,_,rfl,rfl,rfl⟩ wn rfl (ag.g rfl) (ag.g rfl) ag rfl rfl fun a Vs Wv aCP w ag hm=>?_
     refine jT 1 [] [(5,.q Vs Wv E7)] ag fun a ag=>wpList_nil (Eb _ _ ?_);refine mQ <| qG 5 [0,2] [(11,.q gC g6 aO.dl),(12,.i lm)] [fz,2] (gH (hm.d 2 rfl).2.2 hb) ag fun a ag=>?_;obtain ⟨nI,arH,h⟩:=J.fZ h;obtain ⟨apg,aqr,_,rfl,apW⟩:=zS _ (hm.d 5 rfl) arH;refine nz wn (nM Tryz.underlying22 Tryz.sizeOf3 rfl (ag.g rfl) (ag.g rfl) apg aqr) ag rfl rfl fun a ag=>qG 2 [0,0] [(1,.i nI)] [dm gC,gg gC+(lm).toNat* 1] (gH apW hb) ag fun a ag=>wpList_nil ?_;exact py _ _ ⟨Vs,Wv,E7,aCP,nI,ag.cut,hm.hO [0,2,3,4,5],h⟩
   refine wp_exit <| qi (qi (C_ ?_));exact sC _ _ ⟨AF,A8,oj,G1,ag.cut,hm,(os h)⟩
 rintro a w ⟨Di,DJ,td,LR,ag,hm,az⟩;subst Qo;have h:=Pr;clear Pr;refine sB _ _ <| Gl [] [(4,.q Di DJ td)] ag fun a ag=>wp_ret ?_;obtain rfl:=cZ h;refine FR Tryz.results114 ag rfl ?_;exact ⟨Di,DJ,LR,rfl,hm.rJ [0] [0]⟩
theorem WH {W:World} {X:List Nat} {s_:List Int} {r:Unit} {mH:hW} {pf:Nat} {M0:List Nat} (hm:bq W M0 X W [] [cl (eY .i64) mH pf s_]) (h:J.F_ s_=some r) :
 Calls Tryz.prog 116 [.q mH pf s_].toArray W (fun e w'=>∃ g:Nat,e= .returned (.func (.func 144) #[] #[.c6 g])/\bq W M0 X w' [a7.dV g 22 [.q mH pf s_]] []):=by
 refine enter Tryz.func116 rfl Tryz.ntmps116 rfl fun a ag=>?_;clear h;refine wp_seq_k fun K yH=>mQ <| wB (cs:=[.q mH pf s_]) wn (LZ rfl rfl (ag.g rfl)) ag hm rfl rfl fun a YO w _ ag hm=>jT 1 [] [] ag fun a ag=>wpList_nil (yH _ _ ?_);refine Gl [] [(2,.func (.func 144) #[] #[.c6 YO])] ag fun a ag=>wp_ret <| FR Tryz.results116 ag rfl ?_;exact ⟨YO,rfl,hm.rJ [0] []⟩
theorem WE:VJ Tryz.prog 144 :=by
 intro mK iX A c fa L w0 ao hy aP
 refine an4 (vs:=[.func (.yield L) #[] #[],.c6 fa]) Tryz.func144 rfl Tryz.ntmps144 rfl (by rintro w ⟨⟨v,h⟩,_⟩;cases h) ?_
 intro a ag
 obtain ⟨W,M0,X,E,hm⟩:=ao _ _ aP
 have hlen:iX.length<=maxLen:=by
  obtain ⟨cR,bF,ak,al,aT,_⟩:=(hm.d 1 rfl:(b3 (eY .i64)).rd _ _ _ _)
  omega
 refine lC ?_
 intro K yH
 refine nF (by kernel_rfl) ?_
 refine gZ 4 [0,1,3] [0,0] (fr':=[(0,.func (.yield L) #[] #[]),(1,.c6 fa),(3,.i (J.aE ((iX.length:Int) - 1)))]) (L:=[fa,0]) pv (gH (hm.d 0 rfl).2.2 hb) ag (by kernel_rfl) ?_
 intro a ag
 rw [ad3 hlen] at ag
 refine wpList_nil ?_
 refine yH _ _ ?_
 refine TZ ?_
 refine aeg (fun k a w=>∃ (rem:AL),k=rem.length+ 1 /\(∃ pre,iX=rem.reverse++pre)/\Fr ⟨19,[]⟩ [(0,.func (.yield L) #[] #[]),(1,.c6 fa),(3,.i ((rem.length:Int) - 1))] a/\mK rem w) (iX.length+ 1) ⟨iX.reverse,by simp,⟨[],by simp⟩,by rw [List.length_reverse];exact ag,aP⟩ (by rintro a w ⟨rem,h,_⟩;omega) ?_
 rintro k a w ⟨rem,ai,⟨pre,EP⟩,ag,yG⟩ K cT
 refine lC ?_
 intro aDH yI
 refine lC ?_
 intro aDI sB
 refine nF (by kernel_rfl) ?_
 refine gZ 2 [0,1,3,8] [] (fr':=[(0,.func (.yield L) #[] #[]),(1,.c6 fa),(3,.i ((rem.length:Int) - 1)),(8,.bool (decide (0 <=(rem.length:Int) - 1)))]) (L:=[]) pv hb ag (by kernel_rfl) ?_
 intro a ag
 refine wpList_nil ?_
 refine sB _ _ ?_
 refine T1 (ag.g rfl) (fun ah=>?_) (fun ah=>?_)
 · have ah:=of_decide_eq_true ah
   match rem,ah,EP,ag,yG,ai with
   | x::rem,_,EP,ag,yG,ai=>
   have ad:=arU EP
   have e:((x::rem).length:Int) - 1 =(rem.length:Int):=by simp
   rw [e] at ag
   refine K6 ?_
   refine yI _ _ ?_
   refine lC ?_
   intro aDJ sC
   refine TZ ?_
   refine lC ?_
   intro aDK py
   refine azN fun eH=>?_
   refine atW 6 (by kernel_rfl) ?_
   obtain ⟨W,M0,X,E,hm⟩:=ao _ _ yG
   refine gZ 4 [0,1,3,11,12,13,14] [0,0] (fr':=[(0,.func (.yield L) #[] #[]),(1,.c6 fa),(3,.i (rem.length:Int)),(11,.func (.yield L) #[] #[]),(12,.i (rem.length:Int)),(13,.q A c iX),(14,.i (rem.length:Int))]) (L:=[fa,0]) pv (gH (hm.d 0 rfl).2.2 hb) ag (by kernel_rfl) ?_
   intro a ag
   obtain ⟨dH,hi,_,rfl,hc⟩:=zS _ (hm.d 1 rfl) ad
   refine nz wn (nM Tryz.underlying22 Tryz.sizeOf3 rfl (ag.g rfl) (ag.g rfl) dH hi) ag rfl rfl ?_
   intro a ag
   refine gZ 1 [0,1,3,11,12,16] [0,0] (fr':=[(0,.func (.yield L) #[] #[]),(1,.c6 fa),(3,.i (rem.length:Int)),(11,.func (.yield L) #[] #[]),(12,.i (rem.length:Int)),(16,.i x)]) (L:=[dm A,gg A+(rem.length:Int).toNat* 1]) pv (gH hc hb) ag (by kernel_rfl) ?_
   intro a ag
   refine wpList_nil ?_
   refine aDs (vs:=[.i (rem.length:Int),.i x]) wn rfl (ag.g rfl) ⟨ag.g rfl,ag.g rfl,trivial⟩ (hy x rem _ yG) ag rfl rfl ?_
   rintro _ w ⟨rfl,yG⟩
   refine ⟨_,rfl,fun a ag=>?_⟩
   refine Jp eH (by kernel_rfl) ?_
   refine gZ 1 [0,1,3,18] [] (fr':=[(0,.func (.yield L) #[] #[]),(1,.c6 fa),(3,.i (rem.length:Int)),(18,.bool false)]) (L:=[]) pv hb ag (by kernel_rfl) ?_
   intro a ag
   refine wpList_nil ?_
   refine py _ _ ?_
   refine azM (ag.g rfl) rfl ?_
   refine K6 ?_
   refine sC _ _ ?_
   refine nF (by kernel_rfl) ?_
   refine gZ 3 [0,1,3] [] (fr':=[(0,.func (.yield L) #[] #[]),(1,.c6 fa),(3,.i (J.aE ((rem.length:Int) - 1)))]) (L:=[]) pv hb ag (by kernel_rfl) ?_
   intro a ag
   have hle:rem.length<=maxLen:=by
    have:=congrArg List.length EP
    simp at this
    omega
   rw [ad3 hle] at ag
   refine wpList_nil ?_
   exact cT _ _ ⟨rem,by simpa using ai,⟨x::pre,by rw [EP];simp⟩,ag,yG⟩
 · have ah:=of_decide_eq_false ah
   have aB:rem= []:=by
    cases rem with
    | nil=>rfl
    | cons x r=>exact absurd ah (by simp)
   subst aB
   refine T2 ?_
   refine qi ?_
   refine qi ?_
   refine C_ ?_
   refine al0 ?_
   refine axq Tryz.results144 ag ?_
   exact ⟨⟨_,rfl⟩,yG⟩
theorem amq {W:World} {X:List Nat} {F:Nat} {aO:J.bn} {dj:Int} {r:List J.Field} {fz:Nat} {fI:hW} {gL:Nat} {hv:Nat} {gC:hW} {g6:Nat} {M0:List Nat} (hm:bq W M0 X W [] [bw.il fz [.q fI gL aO.l,.map (some hv),.q gC g6 aO.dl],cl J.jv fI gL aO.l,bw.map lg (Value.int .i64) hv aO.b1,cl (eY .i64) gC g6 aO.dl]) (h:J.rc F aO dj=some r) :
 Calls Tryz.prog 83 [.c6 fz,.i dj].toArray W (fun e w'=>∃ Vz:Option Addr,∃ WC:Nat,∃ ahE:List Value,e= .returned (.q Vz WC r)/\bq W M0 X w' [a7.row 136 3 (.q Vz WC r) r ahE] [bw.rows J.iD ahE r]):=by
 refine XL Tryz.func83 rfl Tryz.ntmps83 rfl fun a ag=>?_;rw [J.rc] at h;refine wp_seq_k fun K yH=>mQ <| wB (cs:=[.c6 fz]) wn (LZ rfl rfl (ag.g rfl)) ag hm rfl rfl fun a k5 w _ ag hm=>jT 1 [] [] ag fun a ag=>wpList_nil (yH _ _ ?_);refine wp_seq_k fun K yI=>mQ <| wB (cs:=[.slice none 0 0]) wn (xz Tryz.zeroValue124 rfl rfl) ag hm rfl rfl fun a g7 w _ ag hm=>wpList_nil <| yI _ _ <| wp_seq_k fun K sB=>wp_seq_k fun K sC=>mQ ?_
 refine qG 2 [0,0] [(8,.c6 fz),(9,.i dj)] [k5,0] (gH (jS (hm.e 1 rfl)) hb) ag fun a ag=>?_;obtain ⟨tQ,aq_,h⟩:=J.fZ h;have hc:=hm;refine F6 (vs:=[.c6 fz,.i dj]) wn rfl Tryz.call114 ⟨(ag.g rfl),(ag.g rfl),trivial⟩ (WG ((hc.into 0).pick ⟨⟨0,rfl⟩,⟨1,rfl⟩,⟨2,rfl⟩,⟨3,rfl⟩,trivial⟩) aq_) ag rfl rfl ?_;rintro _ w ⟨G9,HC,aER,rfl,aF⟩;refine ⟨_,rfl,fun a ag=>?_⟩;have hm:=hc.back 0 aF;clear aF hc;obtain ⟨SJ,ara,h⟩:=J.fZ h;have hc:=hm;have ap:=hc.freeze 0 0 rfl rfl
 refine F6 (vs:=[.q G9 HC tQ]) wn rfl Tryz.call116 ⟨(ag.g rfl),trivial⟩ (WH ((ap.into 0).pick ⟨⟨0,rfl⟩,trivial⟩) ara) ag rfl rfl ?_;rintro _ w ⟨YN,rfl,aF⟩;refine ⟨_,rfl,fun a ag=>?_⟩;have af:br [] _ w:=aF.b_;have hm:=hc.fY 0 (by exact trivial) aF;clear aF hc ap;clear af;refine wpList_nil ?_;have ag:=ag.cut (l':=[(2,.c6 k5),(5,.c6 g7),(11,.func (.func 144) #[] #[.c6 YN])]);refine sC _ _ <| wp_block ?_;have hm:=hm.freeze 1 0 rfl rfl;have hm:=hm.YI 0 rfl;have hm:=hm.Fu (α:=J.Field) 136 3
 have hm:=hm.more (y:=bw.rows J.iD [] []) rfl;obtain ⟨asb,Py,h⟩:=J.fZ h
 refine WD (c:=HC) (A:=G9) (β:=(Option Addr) × (Nat) × (List J.Field) × (List Value)) (l1:=fun _ w_=>[(2,.c6 k5),(5,.c6 g7),(7,.i w_)]) (fun ((r0,sq,j3,Aw):(Option Addr) × (Nat) × (List J.Field) × (List Value))=>[a7.row 136 3 (.q r0 sq j3) j3 Aw,a7.dV g7 124 [.q r0 sq j3],a7.dV k5 113 [.c6 fz]]) (fun ((r0,sq,j3,Aw):(Option Addr) × (Nat) × (List J.Field) × (List Value))=>[bw.rows J.iD Aw j3,bw.il YN [.q G9 HC tQ],cl (eY .i64) G9 HC tQ,bw.il fz [.q fI gL aO.l,.map (some hv),.q gC g6 aO.dl],cl J.jv fI gL aO.l,bw.map lg (Value.int .i64) hv aO.b1,cl (eY .i64) gC g6 aO.dl]) (fun (Kt:AL) ((r0,sq,j3,Aw):(Option Addr) × (Nat) × (List J.Field) × (List Value))=>J.vV aO Kt j3=some asb) tQ (none,0,[],[]) 1 2 WE Tryz.call144 ag rfl rfl rfl (hm.hO [0,1,2,4,5,6,7]) Py (fun b=>by obtain ⟨_,_,_,_⟩:=b;rfl) (fun b=>by obtain ⟨_,_,_,_⟩:=b;rfl) ?_ ?_ ?_
 · clear h Py hm ag;intro L arS w_ w a K ag cT;refine nF (by kernel_rfl) <| jT 1 [] [(7,.i w_)] ag fun a ag=>wpList_nil ?_;exact cT _ ag.cut
 · clear h Py hm ag;intro L dO dF bE dc b arS w_ Kt w a K h ag hm cT;obtain ⟨r0,sq,j3,Aw⟩:=b;dsimp only at h hm;rw [J.vV] at h;refine TZ <| aef (m:=11) 9 (br []) (by kernel_rfl) rfl (by kernel_rfl) fun w af=>?_;have hm:=hm.fg af;clear af;have dP:=hm;have cb:=br.refl [] w;refine ej [0,1,2,3,4,5] 6 [0,0,1,0,2,0] [(14,.q r0 sq j3),(18,.q fI gL aO.l),(19,.i w_)] [fz,0,k5,0,g7,0] (fun g1 af=>(gH (Bo af (jS (dP.e 3 rfl))) (gH (Bo af (jS (dP.e 4 rfl))) (gH (Bo af (dP.d 3 rfl).2.2) hb)))) ag cb fun a ag=>?_;obtain ⟨xv,arJ,h⟩:=J.fZ h
   obtain ⟨apj,aqu,_,⟨Ma,MH,Vu,WA,rfl,Zi,Zj⟩,apZ⟩:=zS _ (dP.d 4 rfl) arJ;have dP:=dP.more (y:=cl J.iD Ma MH xv.Fields) Zi;have hm:=hm.more (y:=cl J.iD Ma MH xv.Fields) Zi;have dP:=dP.more (y:=cl J.oR Vu WA xv.bd) Zj;have hm:=hm.more (y:=cl J.oR Vu WA xv.bd) Zj;refine alU 6 rfl (by kernel_rfl) wn (fun g1=>nM Tryz.underlying25 Tryz.sizeOf134 rfl (ag.g rfl) (ag.g rfl) apj aqu) cb ag rfl rfl fun a ag=>?_
   refine ej [7,8] 2 [0,2] [(22,.q Ma MH xv.Fields)] [dm fI,gg fI+(w_).toNat* 4 + 2] (fun g1 af=>(gH (Bo af apZ) hb)) ag cb fun a ag=>k1 9 rfl (by kernel_rfl) (fun _=>cb) ?_;obtain ⟨Jk,aqG,h⟩:=J.fZ h;refine ayK (T:=J.iD) 2 2 1 hm rfl rfl rfl Tryz.underlying124 ar2 rfl rfl aqG rfl wn rfl (ag.g rfl) (ag.g rfl) ag rfl rfl fun a Vy WB aCS w ag hm=>ji ?_;clear dP cb;have dP:=hm;have cb:=br.refl [] w;refine eZ.next 10 (br [] w) (by kernel_rfl) <| k1 10 rfl (by kernel_rfl) (fun _=>cb) ?_
   refine tW (vs:=[.q Vy WB Jk]) 3 hm rfl wn rfl Tryz.sizeOf124 rfl rfl rfl rfl (ag.g rfl) (ag.g rfl) rfl fun w hm=>ji ?_;clear dP cb;have dP:=hm;have cb:=br.refl [] w;refine eZ.next 11 (br [] w) (by kernel_rfl) <| Hx (by kernel_rfl) ?_ (fun _=>cb);clear dP cb;have ag:=ag.cut (l':=[]);exact cT (Vy,WB,Jk,aCS) _ _ h (hm.hO [0,4,5,6,7,8,9])
 clear hm ag;intro aD3 b a w Pz ag hm;obtain ⟨r0,sq,j3,Aw⟩:=b;dsimp only at Pz hm;rw [J.vV] at Pz;obtain rfl:=cZ Pz;have ag:=ag.cut (l':=[(5,.c6 g7)]);refine sB _ _ <| wp_seq_k fun K py=>rg [0,0] [(4,.q r0 sq j3)] [g7,0] (gH (jS (hm.e 2 rfl)) hb) ag fun a ag=>py _ _ <| wp_ret ?_;obtain rfl:=cZ h;refine at8 0 Tryz.results83 ag hm rfl rfl fun w hm=>?_;exact ⟨r0,sq,Aw,rfl,hm.rJ [1] [0]⟩
end Go.Proofs.YteeliipnilghaaaGreat
namespace Go.Proofs.YteeliipnilghaaaGreat
open Go Go.RowKit ax
set_option maxHeartbeats 4000000
set_option maxRecDepth 20000
theorem amt {W:World} {X:List Nat} {F:Nat} {s_:List (List UInt8)} {aK:List UInt8} {r:Int} {mH:hW} {pf:Nat} {M0:List Nat} (hm:bq W M0 X W [] [cl iC mH pf s_]) (h:J.Gk F s_ aK=some r) :
 Calls Tryz.prog 117 [.q mH pf s_,cm aK].toArray W (fun e w'=>e= .returned (.i r)/\bq W M0 X w' [] []):=by
 refine enter Tryz.func117 rfl Tryz.ntmps117 rfl fun a ag=>?_;rw [J.Gk] at h;refine n6 [] [] ag fun a ag=>wp_seq_k fun K yI=>n6 [] [(7,.i (s_.length:Int)),(8,.i 0)] ag fun a ag=>?_;obtain ⟨Qp,h,Ps⟩:=J.ayO h;refine HK (fun a w=>Fr ⟨19,[]⟩ [] a/\bq W M0 X w [] [cl iC mH pf s_]/\Qp=(.go ())) (fun K sC=>?_) ?_
 · refine ML (fun (bM:Nat) a w=>∃ (hd:Int),Fr ⟨19,[]⟩ [(0,.q mH pf s_),(1,cm aK),(7,.i (s_.length:Int)),(8,.i hd)] a/\bq W M0 X w [] [cl iC mH pf s_]/\J.wZ s_ aK bM hd=some Qp) F ⟨0,ag.cut,hm,h⟩ ?_ ?_
   · rintro a w ⟨hd,ag,hm,h⟩;exact absurd h (by simp [J.wZ])
   rintro bM a w ⟨hd,ag,hm,h⟩ K py;rw [J.wZ] at h;refine n6 [] [(9,.bool (decide (hd <(s_.length:Int))))] ag fun a ag=>wp_seq_k fun K Ea=>HM (ag.g rfl) h (fun apR h=>?_) (fun apR h=>?_)
   · refine wp_skip <| Ea _ _ <| wp_seq_k fun K Eb=>wp_block <| n6 [] [(5,.i hd)] ag fun a ag=>wp_seq_k fun K D_=>mQ <| jT 3 [] [(11,cm aK),(12,.q mH pf s_),(13,.i hd)] ag fun a ag=>?_;obtain ⟨Ap,arI,h⟩:=J.fZ h;obtain ⟨aph,aqs,_,rfl,apX⟩:=zS _ (hm.d 0 rfl) arI;refine nz wn (nM Tryz.underlying120 Tryz.sizeOf9 rfl (ag.g rfl) (ag.g rfl) aph aqs) ag rfl rfl fun a ag=>qG 2 [0,0] [(16,.bool (decide (aK=Ap)))] [dm mH,gg mH+(hd).toNat* 1] (gH apX hb) ag fun a ag=>wpList_nil (D_ _ _ ?_);refine HM (ag.g rfl) h (fun apS h=>?_) (fun apS h=>?_)
     · refine Gl [] [(4,.i hd)] ag fun a ag=>wp_ret ?_;obtain rfl:=cZ h;obtain rfl:=cZ Ps;refine ahB (LP (LP (ahB (LP (LP ?_)))));refine FR Tryz.results117 ag rfl ?_;exact ⟨rfl,hm.rJ [] []⟩
     refine wp_skip <| Eb _ _ <| W' [] [(8,.i (J.aE (hd+ 1)))] ag fun a ag=>?_;exact py _ _ ⟨J.aE (hd+ 1),ag.cut,hm,h⟩
   refine wp_exit <| qi (qi (C_ ?_));exact sC _ _ ⟨ag.cut,hm,(os h)⟩
 rintro a w ⟨ag,hm,az⟩;subst Qp;have h:=Ps;clear Ps;dsimp only [J.WU] at h;refine yI _ _ <| Gl [] [(4,.i (-1))] ag fun a ag=>wp_ret ?_;obtain rfl:=cZ h;refine FR Tryz.results117 ag rfl ?_;exact ⟨rfl,hm.rJ [] []⟩
theorem amr {W:World} {X:List Nat} {F:Nat} {aO:J.bn} {dj:Int} {r:(List (List UInt8)) × (List J.Target)} {fz:Nat} {fI:hW} {gL:Nat} {hv:Nat} {gC:hW} {g6:Nat} {M0:List Nat} (hm:bq W M0 X W [] [bw.il fz [.q fI gL aO.l,.map (some hv),.q gC g6 aO.dl],cl J.jv fI gL aO.l,bw.map lg (Value.int .i64) hv aO.b1,cl (eY .i64) gC g6 aO.dl]) (h:J.zv F aO dj=some r) :
 Calls Tryz.prog 82 [.c6 fz,.i dj].toArray W (fun e w'=>∃ Vw:Option Addr,∃ Wy:Nat,∃ ahG:List Value,∃ Vx:Option Addr,∃ Wz:Nat,∃ ahH:List Value,e= .returned (.tuple #[.q Vw Wy r.1,.q Vx Wz r.2])/\bq W M0 X w' [a7.row 9 1 (.q Vw Wy r.1) r.1 ahG,a7.row 166 2 (.q Vx Wz r.2) r.2 ahH] [bw.rows iC ahG r.1,bw.rows J.jw ahH r.2]):=by
 refine XL Tryz.func82 rfl Tryz.ntmps82 rfl fun a ag=>?_;rw [J.zv] at h;refine wp_seq_k fun K yH=>mQ <| wB (cs:=[.c6 fz]) wn (LZ rfl rfl (ag.g rfl)) ag hm rfl rfl fun a k5 w _ ag hm=>jT 2 [] [] ag fun a ag=>wpList_nil (yH _ _ ?_);refine wp_seq_k fun K yI=>mQ <| wB (cs:=[.slice none 0 0]) wn (xz Tryz.zeroValue120 rfl rfl) ag hm rfl rfl fun a g7 w _ ag hm=>wpList_nil <| yI _ _ <| wp_seq_k fun K sB=>mQ <| wB (cs:=[.slice none 0 0]) wn (xz Tryz.zeroValue121 rfl rfl) ag hm rfl rfl fun a jD w _ ag hm=>wpList_nil ?_
 refine sB _ _ <| wp_seq_k fun K sC=>wp_seq_k fun K py=>mQ <| qG 2 [0,0] [(14,.c6 fz),(15,.i dj)] [k5,0] (gH (jS (hm.e 2 rfl)) hb) ag fun a ag=>?_;obtain ⟨iv,aq',h⟩:=J.fZ h;have hc:=hm;refine F6 (vs:=[.c6 fz,.i dj]) wn rfl Tryz.call114 ⟨(ag.g rfl),(ag.g rfl),trivial⟩ (WG ((hc.into 0).pick ⟨⟨0,rfl⟩,⟨1,rfl⟩,⟨2,rfl⟩,⟨3,rfl⟩,trivial⟩) aq') ag rfl rfl ?_;rintro _ w ⟨nQ,n1,aES,rfl,aF⟩;refine ⟨_,rfl,fun a ag=>?_⟩;have hm:=hc.back 0 aF;clear aF hc;obtain ⟨hh,arb,h⟩:=J.fZ h;have hc:=hm
 have ap:=hc.freeze 0 0 rfl rfl;refine F6 (vs:=[.q nQ n1 iv]) wn rfl Tryz.call116 ⟨(ag.g rfl),trivial⟩ (WH ((ap.into 0).pick ⟨⟨0,rfl⟩,trivial⟩) arb) ag rfl rfl ?_;rintro _ w ⟨Bs,rfl,aF⟩;refine ⟨_,rfl,fun a ag=>?_⟩;have af:br [] _ w:=aF.b_;have hm:=hc.fY 0 (by exact trivial) aF;clear aF hc ap;clear af;refine wpList_nil ?_;have ag:=ag.cut (l':=[(2,.c6 k5),(6,.c6 g7),(7,.c6 jD),(17,.func (.func 144) #[] #[.c6 Bs])]);refine py _ _ <| wp_block ?_;have hm:=hm.freeze 1 0 rfl rfl
 have hm:=hm.YI 0 rfl;have hm:=hm.Fu (α:=J.Target) 166 2;have hm:=hm.more (y:=bw.rows J.jw [] []) rfl;have hm:=hm.Fu (α:=List UInt8) 9 1;have hm:=hm.more (y:=bw.rows iC [] []) rfl;obtain ⟨asa,Pw,h⟩:=J.fZ h
 refine WD (c:=n1) (A:=nQ) (β:=(Option Addr) × (Nat) × (List (List UInt8)) × (List Value) × (Option Addr) × (Nat) × (List J.Target) × (List Value)) (l1:=fun _ eP=>[(2,.c6 k5),(6,.c6 g7),(7,.c6 jD),(9,.i eP)]) (fun ((r1,sr,j4,xx,r2,ss,j5,xy):(Option Addr) × (Nat) × (List (List UInt8)) × (List Value) × (Option Addr) × (Nat) × (List J.Target) × (List Value))=>[a7.row 9 1 (.q r1 sr j4) j4 xx,a7.row 166 2 (.q r2 ss j5) j5 xy,a7.dV jD 121 [.q r2 ss j5],a7.dV g7 120 [.q r1 sr j4],a7.dV k5 113 [.c6 fz]]) (fun ((r1,sr,j4,xx,r2,ss,j5,xy):(Option Addr) × (Nat) × (List (List UInt8)) × (List Value) × (Option Addr) × (Nat) × (List J.Target) × (List Value))=>[bw.rows iC xx j4,bw.rows J.jw xy j5,bw.il Bs [.q nQ n1 iv],cl (eY .i64) nQ n1 iv,bw.il fz [.q fI gL aO.l,.map (some hv),.q gC g6 aO.dl],cl J.jv fI gL aO.l,bw.map lg (Value.int .i64) hv aO.b1,cl (eY .i64) gC g6 aO.dl]) (fun (Ku:AL) ((r1,sr,j4,xx,r2,ss,j5,xy):(Option Addr) × (Nat) × (List (List UInt8)) × (List Value) × (Option Addr) × (Nat) × (List J.Target) × (List Value))=>J.v0 F aO Ku j4 j5=some asa) iv (none,0,[],[],none,0,[],[]) 2 3 WE Tryz.call144 ag rfl rfl rfl (hm.hO [0,0,2,3,5,6,7,8]) Pw (fun b=>by obtain ⟨_,_,_,_,_,_,_,_⟩:=b;rfl) (fun b=>by obtain ⟨_,_,_,_,_,_,_,_⟩:=b;rfl) ?_ ?_ ?_
 · clear h Pw hm ag;intro L arT eP w a K ag cT;refine nF (by kernel_rfl) <| jT 1 [] [(9,.i eP)] ag fun a ag=>wpList_nil ?_;exact cT _ ag.cut
 · clear h Pw hm ag;intro L dO dF bE dc b arT eP Ku w a K h ag hm cT;obtain ⟨r1,sr,j4,xx,r2,ss,j5,xy⟩:=b;dsimp only at h hm;rw [J.v0] at h;obtain ⟨aag,h,Pt⟩:=J.fZ h
   refine T0 (fun a w=>∃ (G_:hW) (HD:Nat) (tk:List (List UInt8)) (LS:mL) (G':hW) (HE:Nat) (tl:List J.Target) (LU:mL),Fr ⟨59,[]⟩ [] a/\bq W M0 X w [a7.obj dO dF,a7.obj bE dc,a7.row 9 1 (.q G_ HD tk) tk LS,a7.row 166 2 (.q G' HE tl) tl LU,a7.dV jD 121 [.q G' HE tl],a7.dV g7 120 [.q G_ HD tk],a7.dV k5 113 [.c6 fz]] [bw.rows iC LS tk,bw.rows J.jw LU tl,bw.il Bs [.q nQ n1 iv],cl (eY .i64) nQ n1 iv,bw.il fz [.q fI gL aO.l,.map (some hv),.q gC g6 aO.dl],cl J.jv fI gL aO.l,bw.map lg (Value.int .i64) hv aO.b1,cl (eY .i64) gC g6 aO.dl]/\aag=(tk,tl)) (fun K D'=>?_) ?_
   · clear Pt;refine lC fun K Ea=>nF (by kernel_rfl) <| qG 5 [0,0,1,0] [(23,.q fI gL aO.l),(24,.i eP)] [fz,0,k5,0] (gH (jS (hm.e 6 rfl)) (gH (hm.d 4 rfl).2.2 hb)) ag fun a ag=>?_;obtain ⟨fu,arK,h⟩:=J.fZ h;obtain ⟨api,aqt,_,⟨Ha,HF,lJ,n2,rfl,ap7,ap8⟩,apY⟩:=zS _ (hm.d 5 rfl) arK;have hm:=hm.more (y:=cl J.iD Ha HF fu.Fields) ap7;have hm:=hm.more (y:=cl J.oR lJ n2 fu.bd) ap8;refine nz wn (nM Tryz.underlying25 Tryz.sizeOf134 rfl (ag.g rfl) (ag.g rfl) api aqt) ag rfl rfl fun a ag=>?_
     refine qG 4 [0,3] [(27,.q lJ n2 fu.bd),(28,.i (fu.bd.length:Int)),(29,.i 0)] [dm fI,gg fI+(eP).toNat* 4 + 3] (gH apY hb) ag fun a ag=>wpList_nil (Ea _ _ ?_);obtain ⟨Qq,h,Pu⟩:=J.fZ h
     refine T0 (fun a w=>∃ (Hb:hW) (HG:Nat) (tm:List (List UInt8)) (LV:mL) (Hc:hW) (HH:Nat) (tn:List J.Target) (LW:mL),Fr ⟨59,[]⟩ [] a/\bq W M0 X w [a7.obj dO dF,a7.obj bE dc,a7.row 9 1 (.q Hb HG tm) tm LV,a7.row 166 2 (.q Hc HH tn) tn LW,a7.dV jD 121 [.q Hc HH tn],a7.dV g7 120 [.q Hb HG tm],a7.dV k5 113 [.c6 fz]] [bw.rows iC LV tm,bw.rows J.jw LW tn,cl J.oR lJ n2 fu.bd,cl J.iD Ha HF fu.Fields,bw.il Bs [.q nQ n1 iv],cl (eY .i64) nQ n1 iv,bw.il fz [.q fI gL aO.l,.map (some hv),.q gC g6 aO.dl],cl J.jv fI gL aO.l,bw.map lg (Value.int .i64) hv aO.b1,cl (eY .i64) gC g6 aO.dl]/\Qq=(tm,tn)) (fun K Eb=>?_) ?_
     · clear Pu
       refine aeg (fun (eC:Nat) a w=>∃ (o0:hW) (pg:Nat) (jq:List (List UInt8)) (Da:mL) (uC:hW) (va:Nat) (lh:List J.Target) (G2:mL) (eN:Int),Fr ⟨59,[]⟩ [(6,.c6 g7),(7,.c6 jD),(9,.i eP),(27,.q lJ n2 fu.bd),(28,.i (fu.bd.length:Int)),(29,.i eN)] a/\bq W M0 X w [a7.obj dO dF,a7.obj bE dc,a7.row 9 1 (.q o0 pg jq) jq Da,a7.row 166 2 (.q uC va lh) lh G2,a7.dV jD 121 [.q uC va lh],a7.dV g7 120 [.q o0 pg jq],a7.dV k5 113 [.c6 fz]] [bw.rows iC Da jq,bw.rows J.jw G2 lh,cl J.oR lJ n2 fu.bd,cl J.iD Ha HF fu.Fields,bw.il Bs [.q nQ n1 iv],cl (eY .i64) nQ n1 iv,bw.il fz [.q fI gL aO.l,.map (some hv),.q gC g6 aO.dl],cl J.jv fI gL aO.l,bw.map lg (Value.int .i64) hv aO.b1,cl (eY .i64) gC g6 aO.dl]/\J.v3 F eP fu eC jq lh eN=some Qq) F ⟨r1,sr,j4,xx,r2,ss,j5,xy,0,ag.cut,hm.hO [2,3,0,1,4,5,6,7,8,9],h⟩ ?_ ?_
       · rintro a w ⟨o0,pg,jq,Da,uC,va,lh,G2,eN,ag,hm,h⟩;exact absurd h (by simp [J.v3])
       rintro eC a w ⟨o0,pg,jq,Da,uC,va,lh,G2,eN,ag,hm,h⟩ K O4;rw [J.v3] at h;refine lC fun K D_=>nF (by kernel_rfl) <| jT 1 [] [(30,.bool (decide (eN <(fu.bd.length:Int))))] ag fun a ag=>wpList_nil (D_ _ _ ?_);refine lC fun K apr=>T1 (ag.g rfl) (fun O9=>?_) (fun O9=>?_)
       · have h:=J.MS O9 h;refine K6 <| apr _ _ <| lC fun K aps=>?_;obtain ⟨aah,h,Pv⟩:=J.fZ h
         refine T0 (fun a w=>∃ (Hd:hW) (HI:Nat) (tp:List (List UInt8)) (LX:mL) (Hf:hW) (HJ:Nat) (tq:List J.Target) (LY:mL),Fr ⟨59,[]⟩ [(6,.c6 g7),(7,.c6 jD),(9,.i eP),(27,.q lJ n2 fu.bd),(28,.i (fu.bd.length:Int)),(29,.i eN)] a/\bq W M0 X w [a7.obj dO dF,a7.obj bE dc,a7.row 9 1 (.q Hd HI tp) tp LX,a7.row 166 2 (.q Hf HJ tq) tq LY,a7.dV jD 121 [.q Hf HJ tq],a7.dV g7 120 [.q Hd HI tp],a7.dV k5 113 [.c6 fz]] [bw.rows iC LX tp,bw.rows J.jw LY tq,cl J.oR lJ n2 fu.bd,cl J.iD Ha HF fu.Fields,bw.il Bs [.q nQ n1 iv],cl (eY .i64) nQ n1 iv,bw.il fz [.q fI gL aO.l,.map (some hv),.q gC g6 aO.dl],cl J.jv fI gL aO.l,bw.map lg (Value.int .i64) hv aO.b1,cl (eY .i64) gC g6 aO.dl]/\aah=(tp,tq)) (fun K IB=>?_) ?_
         · clear Pv;refine lC fun K apt=>nF (by kernel_rfl) <| jT 1 [] [(31,.i eN)] ag fun a ag=>?_;obtain ⟨fv,arL,h⟩:=J.fZ h;obtain ⟨apk,aqv,_,⟨Mb,MI,Mc,MJ,rfl,ap9,ap_⟩,ap0⟩:=zS _ (hm.d 2 rfl) arL;have hm:=hm.more (y:=cl J.zX Mb MI fv.cy) ap9;have hm:=hm.more (y:=cl J.zW Mc MJ fv.cC) ap_;refine nz wn (nM Tryz.underlying132 Tryz.sizeOf131 rfl (ag.g rfl) (ag.g rfl) apk aqv) ag rfl rfl fun a ag=>?_
           refine qG 1 [0,0] [(33,.agg #[cm fv.Name,.bool fv.Static,.q Mb MI fv.cy,.i fv.Returns.Kind,cm fv.Returns.aq,.i fv.g4,.i fv.g2,cm fv.Code,.q Mc MJ fv.cC])] [dm lJ,gg lJ+(eN).toNat* 9] (gH ap0 hb) ag fun a ag=>wB (cs:=[cm [],.bool false,.slice none 0 0,.i 0,cm [],.i 0,.i 0,cm [],.slice none 0 0]) wn (xz Tryz.zeroValue131 rfl rfl) ag hm rfl rfl fun a NV w _ ag hm=>jT 1 [] [(10,.i eN)] ag fun a ag=>?_
           refine tW (vs:=[cm fv.Name,.bool fv.Static,.q Mb MI fv.cy,.i fv.Returns.Kind,cm fv.Returns.aq,.i fv.g4,.i fv.g2,cm fv.Code,.q Mc MJ fv.cC]) 0 hm rfl wn rfl Tryz.sizeOf131 rfl rfl rfl rfl (ag.g rfl) (ag.g rfl) rfl fun w hm=>wpList_nil <| apt _ _ <| lC fun K apu=>nF (by kernel_rfl) <| jT 2 [] [(34,.i eP),(35,.i eN)] ag fun a ag=>?_
           refine nz wn (aCZ (vs:=[(0,.i eP),(1,.i eN)]) (cs:=[.i eP,.i eN]) Tryz.zeroValue166 Tryz.underlying166 avy rfl ⟨⟨(ag.g rfl),rfl⟩,⟨(ag.g rfl),rfl⟩,trivial⟩ (by kernel_rfl)) ag rfl rfl fun a ag=>wB (cs:=[.i 0,.i 0]) wn (xz Tryz.zeroValue166 rfl rfl) ag hm rfl rfl fun a NW w _ ag hm=>tW (vs:=[.i eP,.i eN]) 0 hm rfl wn rfl Tryz.sizeOf166 rfl rfl rfl rfl (ag.g rfl) (ag.g rfl) rfl fun w hm=>wpList_nil ?_
           have ag:=ag.cut (l':=[(6,.c6 g7),(7,.c6 jD),(9,.i eP),(11,.c6 NV),(12,.c6 NW),(27,.q lJ n2 fu.bd),(28,.i (fu.bd.length:Int)),(29,.i eN)]);refine apu _ _ <| lC fun K apv=>lC fun K apw=>nF (by kernel_rfl) <| qG 3 [0,0,1,0] [(37,.q o0 pg jq),(39,cm fv.Name)] [NV,0,g7,0] (gH (jS (hm.e 7 rfl)) (gH (jS (hm.e 1 rfl)) hb)) ag fun a ag=>?_;obtain ⟨zP,arc,h⟩:=J.fZ h;have hc:=hm;have ap:=hc.freeze 4 2 rfl rfl
           refine F6 (vs:=[.q o0 pg jq,cm fv.Name]) wn rfl Tryz.call117 ⟨(ag.g rfl),(ag.g rfl),trivial⟩ (amt ((ap.into 0).pick ⟨⟨0,rfl⟩,trivial⟩) arc) ag rfl rfl ?_;rintro _ w ⟨rfl,aF⟩;refine ⟨_,rfl,fun a ag=>?_⟩;have af:br [] _ w:=aF.b_;have hm:=hc.fY 0 (by exact trivial) aF;clear aF hc ap;clear af;refine jT 1 [] [(13,.i zP)] ag fun a ag=>wpList_nil (apw _ _ ?_);refine lC fun K apx=>nF (by kernel_rfl) <| jT 2 [] [(42,.bool (decide (0 <=zP)))] ag fun a ag=>wpList_nil (apx _ _ ?_);refine T1 (ag.g rfl) (fun O_=>?_) (fun O_=>?_)
           · have h:=J.MS O_ h;refine lC fun K apy=>nF (by kernel_rfl) <| qG 3 [0,0,1,0] [(43,.q uC va lh),(44,.i zP),(45,.agg #[.i eP,.i eN])] [NW,0,jD,0] (gH (jS (hm.e 6 rfl)) (gH (jS (hm.e 0 rfl)) hb)) ag fun a ag=>?_;obtain ⟨U1,Z0,h⟩:=J.fZ h;obtain ⟨apl,aqw,_,rfl,ap1⟩:=aye (hm.e 5 rfl) (hm.d 3 rfl) Z0;refine nz wn (nM Tryz.underlying121 Tryz.sizeOf166 rfl (ag.g rfl) (ag.g rfl) apl aqw) ag rfl rfl fun a ag=>?_;obtain ⟨QG,aqE,h⟩:=J.fZ h
             refine ayY (T:=J.jw) (d':=(⟨eP,eN⟩:J.Target)) (vs:=[.i eP,.i eN]) (cs0:=[.i U1.aq,.i U1.Method]) (kk:=0) 5 3 aqE hm rfl rfl Z0 rfl ap1 wn rfl Tryz.sizeOf166 rfl rfl rfl rfl rfl (ag.g rfl) (ag.g rfl) rfl fun aCQ w hlen af hm=>?_;try unfold Value.q at hm;try unfold Value.q at ag;rw [hlen] at hm;try rw [hlen] at ag;clear hlen;clear af;refine wpList_nil ?_;have ag:=ag.cut (l':=[(6,.c6 g7),(7,.c6 jD),(9,.i eP),(27,.q lJ n2 fu.bd),(28,.i (fu.bd.length:Int)),(29,.i eN)]);refine apy _ _ <| T2 <| qi (C_ ?_)
             exact IB _ _ ⟨o0,pg,jq,Da,uC,va,QG,aCQ,ag.cut,hm.rJ [2,3,4,5,6,7,8] [3,0,5,6,7,8,9,10,11,12],(os h)⟩
           have h:=J.MR O_ h;refine K6 <| apv _ _ <| aef (m:=11) 8 (br (Value.q o0 pg jq).ownBlock.toList) (by kernel_rfl) rfl (by kernel_rfl) fun w af=>?_;have hm:=hm.fg af;clear af;have dP:=hm;have cb:=br.refl (Value.q o0 pg jq).ownBlock.toList w
           refine ej [0,1,2,5,6] 5 [0,0,1,0,2,0,3,0] [(47,.q o0 pg jq),(49,cm fv.Name),(52,.q uC va lh),(53,.agg #[.i eP,.i eN])] [NW,0,jD,0,NV,0,g7,0] (fun g1 af=>(gH (H' af (dP.JX 7 4 rfl rfl (by decide)) (DH (dP.e 7 rfl)) (jS (dP.e 7 rfl))) (gH (H' af (dP.JX 1 4 rfl rfl (by decide)) (DH (dP.e 1 rfl)) (jS (dP.e 1 rfl))) (gH (H' af (dP.JX 6 4 rfl rfl (by decide)) (DH (dP.e 6 rfl)) (jS (dP.e 6 rfl))) (gH (H' af (dP.JX 0 4 rfl rfl (by decide)) (DH (dP.e 0 rfl)) (jS (dP.e 0 rfl))) hb))))) ag cb fun a ag=>V_ 3 7 rfl rfl (by kernel_rfl) (fun _=>cb) ?_ ?_
           · refine Fv (cs:=[cm fv.Name]) wn (Ay (vs:=[(0,cm fv.Name)]) Tryz.underlying120 Tryz.sizeOf9 Tryz.zeroValue9 rfl rfl rfl ⟨⟨(ag.g rfl),rfl⟩,trivial⟩ (by kernel_rfl)) ag hm rfl rfl fun a ao6 w af Er ag hm=>?_;have Er:=Nat.le_trans cb.size Er;have cb:=cb.trans af (by simp);clear af;refine ji <| V_ 4 7 rfl rfl (by kernel_rfl) (fun _=>cb) ?_ ?_
             · obtain ⟨Jj,aqF,h⟩:=J.fZ h;refine Tk (T:=iC) (ml:=[fv.Name]) 5 0 2 hm rfl rfl rfl Tryz.underlying120 Qg rfl rfl aqF rfl rfl ⟨_,_,rfl,rfl,rfl⟩ wn rfl (ag.g rfl) (ag.g rfl) ag rfl rfl fun a Vv Wx aCR w af ag hm=>?_;have cb:=cb.trans af (fun x ad=>.inl ad);clear af;refine ji <| k1 7 rfl (by kernel_rfl) (fun _=>cb) <| Fv (cs:=[.i eP,.i eN]) wn (Ay (vs:=[(0,.agg #[.i eP,.i eN])]) Tryz.underlying121 Tryz.sizeOf166 Tryz.zeroValue166 rfl rfl rfl ⟨⟨(ag.g rfl),rfl⟩,trivial⟩ (by kernel_rfl)) ag hm rfl rfl fun a aD1 w af Zr ag hm=>?_;have Zr:=Nat.le_trans cb.size Zr;have cb:=cb.trans af (by simp);clear af;refine ji ?_
               refine k1 8 rfl (by kernel_rfl) (fun _=>cb) ?_;obtain ⟨q',ED,h⟩:=J.fZ h;refine F5 (T:=J.jw) (ml:=[(⟨eP,eN⟩:J.Target)]) 6 0 4 hm rfl rfl rfl Tryz.underlying121 Qf rfl rfl ED rfl rfl ⟨_,_,rfl,rfl,rfl⟩ wn rfl (ag.g rfl) (ag.g rfl) ag rfl rfl fun a uD vb G3 w ag hm=>ji ?_;clear dP cb;have dP:=hm;have cb:=br.refl [] w;refine eZ.next 9 (br [] w) (by kernel_rfl) <| k1 9 rfl (by kernel_rfl) (fun _=>cb) <| tW (vs:=[.q Vv Wx Jj]) 7 hm rfl wn rfl Tryz.sizeOf120 rfl rfl rfl rfl (ag.g rfl) (ag.g rfl) rfl fun w hm=>ji ?_;clear dP cb;have dP:=hm
               have cb:=br.refl [] w;refine eZ.next 10 (br [] w) (by kernel_rfl) <| k1 10 rfl (by kernel_rfl) (fun _=>cb) <| tW (vs:=[.q uD vb q']) 6 hm rfl wn rfl Tryz.sizeOf121 rfl rfl rfl rfl (ag.g rfl) (ag.g rfl) rfl fun w hm=>ji ?_;clear dP cb;have dP:=hm;have cb:=br.refl [] w;refine eZ.next 11 (br [] w) (by kernel_rfl) <| Hx (by kernel_rfl) ?_ (fun _=>cb);clear dP cb;have ag:=ag.cut (l':=[(6,.c6 g7),(7,.c6 jD),(9,.i eP),(27,.q lJ n2 fu.bd),(28,.i (fu.bd.length:Int)),(29,.i eN)])
               exact IB _ _ ⟨Vv,Wx,Jj,aCR,uD,vb,q',G3,ag.cut,hm.rJ [2,3,4,5,6,7,8] [1,0,6,7,8,9,10,11,12,13],(os h)⟩
             refine Fv (cs:=[.i eP,.i eN]) wn (Ay (vs:=[(0,.agg #[.i eP,.i eN])]) Tryz.underlying121 Tryz.sizeOf166 Tryz.zeroValue166 rfl rfl rfl ⟨⟨(ag.g rfl),rfl⟩,trivial⟩ (by kernel_rfl)) ag hm rfl rfl fun a ao7 w af Es ag hm=>?_;have Es:=Nat.le_trans cb.size Es;have cb:=cb.trans af (by simp);clear af;refine ji <| k1 4 rfl (by kernel_rfl) (fun _=>cb) ?_;obtain ⟨E9,PC,h⟩:=J.fZ h;refine Tk (T:=iC) (ml:=[fv.Name]) 6 1 2 hm rfl rfl rfl Tryz.underlying120 Qg rfl rfl PC rfl rfl ⟨_,_,rfl,rfl,rfl⟩ wn rfl (ag.g rfl) (ag.g rfl) ag rfl rfl fun a Dj DK Vf w af ag hm=>?_;have cb:=cb.trans af (fun x ad=>.inl ad);clear af;refine ji ?_
             refine k1 8 rfl (by kernel_rfl) (fun _=>cb) ?_;obtain ⟨q',ED,h⟩:=J.fZ h;refine F5 (T:=J.jw) (ml:=[(⟨eP,eN⟩:J.Target)]) 6 0 4 hm rfl rfl rfl Tryz.underlying121 Qf rfl rfl ED rfl rfl ⟨_,_,rfl,rfl,rfl⟩ wn rfl (ag.g rfl) (ag.g rfl) ag rfl rfl fun a uD vb G3 w ag hm=>ji ?_;clear dP cb;have dP:=hm;have cb:=br.refl [] w;refine eZ.next 9 (br [] w) (by kernel_rfl) <| k1 9 rfl (by kernel_rfl) (fun _=>cb) <| tW (vs:=[.q Dj DK E9]) 7 hm rfl wn rfl Tryz.sizeOf120 rfl rfl rfl rfl (ag.g rfl) (ag.g rfl) rfl fun w hm=>ji ?_;clear dP cb;have dP:=hm
             have cb:=br.refl [] w;refine eZ.next 10 (br [] w) (by kernel_rfl) <| k1 10 rfl (by kernel_rfl) (fun _=>cb) <| tW (vs:=[.q uD vb q']) 6 hm rfl wn rfl Tryz.sizeOf121 rfl rfl rfl rfl (ag.g rfl) (ag.g rfl) rfl fun w hm=>ji ?_;clear dP cb;have dP:=hm;have cb:=br.refl [] w;refine eZ.next 11 (br [] w) (by kernel_rfl) <| Hx (by kernel_rfl) ?_ (fun _=>cb);clear dP cb;have ag:=ag.cut (l':=[(6,.c6 g7),(7,.c6 jD),(9,.i eP),(27,.q lJ n2 fu.bd),(28,.i (fu.bd.length:Int)),(29,.i eN)])
             exact IB _ _ ⟨Dj,DK,E9,Vf,uD,vb,q',G3,ag.cut,hm.rJ [2,3,4,5,6,7,8] [1,0,6,7,8,9,10,11,12,13],(os h)⟩
           refine Fv (cs:=[.i eP,.i eN]) wn (Ay (vs:=[(0,.agg #[.i eP,.i eN])]) Tryz.underlying121 Tryz.sizeOf166 Tryz.zeroValue166 rfl rfl rfl ⟨⟨(ag.g rfl),rfl⟩,trivial⟩ (by kernel_rfl)) ag hm rfl rfl fun a ao6 w af Er ag hm=>?_;have Er:=Nat.le_trans cb.size Er;have cb:=cb.trans af (by simp);clear af;refine ji <| k1 3 rfl (by kernel_rfl) (fun _=>cb) <| Fv (cs:=[cm fv.Name]) wn (Ay (vs:=[(0,cm fv.Name)]) Tryz.underlying120 Tryz.sizeOf9 Tryz.zeroValue9 rfl rfl rfl ⟨⟨(ag.g rfl),rfl⟩,trivial⟩ (by kernel_rfl)) ag hm rfl rfl fun a ao7 w af Es ag hm=>?_;have Es:=Nat.le_trans cb.size Es;have cb:=cb.trans af (by simp);clear af;refine ji ?_
           refine k1 4 rfl (by kernel_rfl) (fun _=>cb) ?_;obtain ⟨E9,PC,h⟩:=J.fZ h;refine Tk (T:=iC) (ml:=[fv.Name]) 6 0 2 hm rfl rfl rfl Tryz.underlying120 Qg rfl rfl PC rfl rfl ⟨_,_,rfl,rfl,rfl⟩ wn rfl (ag.g rfl) (ag.g rfl) ag rfl rfl fun a Dj DK Vf w af ag hm=>?_;have cb:=cb.trans af (fun x ad=>.inl ad);clear af;refine ji <| k1 8 rfl (by kernel_rfl) (fun _=>cb) ?_;obtain ⟨q',ED,h⟩:=J.fZ h;refine F5 (T:=J.jw) (ml:=[(⟨eP,eN⟩:J.Target)]) 6 0 4 hm rfl rfl rfl Tryz.underlying121 Qf rfl rfl ED rfl rfl ⟨_,_,rfl,rfl,rfl⟩ wn rfl (ag.g rfl) (ag.g rfl) ag rfl rfl fun a uD vb G3 w ag hm=>ji ?_
           clear dP cb;have dP:=hm;have cb:=br.refl [] w;refine eZ.next 9 (br [] w) (by kernel_rfl) <| k1 9 rfl (by kernel_rfl) (fun _=>cb) <| tW (vs:=[.q Dj DK E9]) 7 hm rfl wn rfl Tryz.sizeOf120 rfl rfl rfl rfl (ag.g rfl) (ag.g rfl) rfl fun w hm=>ji ?_;clear dP cb;have dP:=hm;have cb:=br.refl [] w;refine eZ.next 10 (br [] w) (by kernel_rfl) <| k1 10 rfl (by kernel_rfl) (fun _=>cb) <| tW (vs:=[.q uD vb q']) 6 hm rfl wn rfl Tryz.sizeOf121 rfl rfl rfl rfl (ag.g rfl) (ag.g rfl) rfl fun w hm=>ji ?_;clear dP cb
           have dP:=hm;have cb:=br.refl [] w;refine eZ.next 11 (br [] w) (by kernel_rfl) <| Hx (by kernel_rfl) ?_ (fun _=>cb);clear dP cb;have ag:=ag.cut (l':=[(6,.c6 g7),(7,.c6 jD),(9,.i eP),(27,.q lJ n2 fu.bd),(28,.i (fu.bd.length:Int)),(29,.i eN)]);exact IB _ _ ⟨Dj,DK,E9,Vf,uD,vb,q',G3,ag.cut,hm.rJ [2,3,4,5,6,7,8] [1,0,6,7,8,9,10,11,12,13],(os h)⟩
         rintro a w ⟨Hd,HI,tp,LX,Hf,HJ,tq,LY,ag,hm,az⟩;subst aah;have h:=Pv;clear Pv;dsimp only at h;refine aps _ _ <| nF (by kernel_rfl) <| jT 2 [] [(29,.i (J.aE (eN+ 1)))] ag fun a ag=>wpList_nil ?_;exact O4 _ _ ⟨Hd,HI,tp,LX,Hf,HJ,tq,LY,J.aE (eN+ 1),ag.cut,hm,h⟩
       have h:=J.MR O9 h;refine T2 <| qi (qi (C_ ?_));exact Eb _ _ ⟨o0,pg,jq,Da,uC,va,lh,G2,ag.cut,hm,(os h)⟩
     rintro a w ⟨Hb,HG,tm,LV,Hc,HH,tn,LW,ag,hm,az⟩;subst Qq;have h:=Pu;clear Pu;dsimp only at h;exact D' _ _ ⟨Hb,HG,tm,LV,Hc,HH,tn,LW,ag.cut,hm.hO [0,1,4,5,6,7,8,9],(os h)⟩
   rintro a w ⟨G_,HD,tk,LS,G',HE,tl,LU,ag,hm,az⟩;subst aag;have h:=Pt;clear Pt;dsimp only at h;exact cT (G_,HD,tk,LS,G',HE,tl,LU) _ _ h (hm)
 clear hm ag;intro aD2 b a w Px ag hm;obtain ⟨r1,sr,j4,xx,r2,ss,j5,xy⟩:=b;dsimp only at Px hm;rw [J.v0] at Px;obtain rfl:=cZ Px;have ag:=ag.cut (l':=[(6,.c6 g7),(7,.c6 jD)]);dsimp only at h;refine sC _ _ <| wp_seq_k fun K apz=>ams (by kernel_rfl) (by kernel_rfl) <| av8 4 [0,0,1,0] [(4,.q r1 sr j4),(5,.q r2 ss j5)] [jD,0,g7,0] (fun g1 af=>(gH (Bo af (jS (hm.e 4 rfl))) (gH (Bo af (jS (hm.e 3 rfl))) hb))) ag fun a ag=>wpQuiet_nil fun w af=>?_;have hm:=hm.fg af;clear af;refine apz _ _ <| wp_ret ?_
 obtain rfl:=cZ h;refine at9 0 Tryz.results82 ag hm rfl rfl rfl fun w hm=>?_;exact ⟨r1,sr,xx,r2,ss,xy,rfl,hm.rJ [1,2] [0,1]⟩
end Go.Proofs.YteeliipnilghaaaGreat
namespace Go.Proofs.YteeliipnilghaaaGreat
open Go Go.RowKit ax J bB
section
variable {F:Nat->Prop} {w:World}
theorem al7 {cs:List Value} {d:J.Kind} (h:(bQ.ty 128).rd F w cs d):J.zX.rd F w cs d:=by
 change e4 (fun t=>(fK H4 t).ty) F w [.i .i64,.s] cs (d.Kind,d.aq,()) at h
 obtain ⟨_,_,rfl,rfl,_,_,rfl,rfl,rfl⟩:=h
 rfl
theorem al6 {cs:List Value} {d:J.Handler} (h:(bQ.ty 157).rd F w cs d):J.zW.rd F w cs d:=by
 change e4 (fun t=>(fK H2 t).ty) F w [.i .i64,.i .i64,.i .i64,.s] cs (d.From,d.To,d.hU,d.aq,()) at h
 obtain ⟨_,_,rfl,rfl,_,_,rfl,rfl,_,_,rfl,rfl,_,_,rfl,rfl,rfl⟩:=h
 rfl
theorem al5 {cs:List Value} {d:J.Field} (h:(bQ.ty 136).rd F w cs d):J.iD.rd F w cs d:=by
 change e4 (fun t=>(fK DR t).ty) F w [.s,.i .i64,.s] cs (d.Name,d.Kind.Kind,d.Kind.aq,()) at h
 obtain ⟨_,_,rfl,rfl,_,_,rfl,rfl,_,_,rfl,rfl,rfl⟩:=h
 rfl
theorem al8 {cs:List Value} {d:J.Method} (h:(bQ.ty 131).rd F w cs d):J.oR.rd F w cs d:=by
 change e4 (fun t=>(fK H5 t).ty) F w [.s,.b,.l 128,.i .i64,.s,.i .i64,.i .i64,.s,.l 157] cs (d.Name,d.Static,d.cy,d.Returns.Kind,d.Returns.aq,d.g4,d.g2,d.Code,d.cC,()) at h
 obtain ⟨_,_,rfl,rfl,_,_,rfl,rfl,_,_,rfl,I,_,_,rfl,rfl,_,_,rfl,rfl,_,_,rfl,rfl,_,_,rfl,rfl,_,_,rfl,rfl,_,_,rfl,aa,rfl⟩:=h
 have I:(b3 (bQ.ty 128)).rd F w [_] d.cy:=I
 have aa:(b3 (bQ.ty 157)).rd F w [_] d.cC:=aa
 obtain ⟨A,c,rfl⟩:=kK _ I
 obtain ⟨cR,bF,rfl⟩:=kK _ aa
 exact ⟨A,c,cR,bF,rfl,iA (fun _ _=>al7) I,iA (fun _ _=>al6) aa⟩
theorem al4 {cs:List Value} {d:J.aq} (h:(bQ.ty 134).rd F w cs d):J.jv.rd F w cs d:=by
 change e4 (fun t=>(fK H3 t).ty) F w [.s,.s,.l 136,.l 131] cs (d.Name,d.cS,d.Fields,d.bd,()) at h
 obtain ⟨_,_,rfl,rfl,_,_,rfl,rfl,_,_,rfl,I,_,_,rfl,aa,rfl⟩:=h
 have I:(b3 (bQ.ty 136)).rd F w [_] d.Fields:=I
 have aa:(b3 (bQ.ty 131)).rd F w [_] d.bd:=aa
 obtain ⟨A,c,rfl⟩:=kK _ I
 obtain ⟨cR,bF,rfl⟩:=kK _ aa
 exact ⟨A,c,cR,bF,rfl,iA (fun _ _=>al5) I,iA (fun _ _=>al8) aa⟩
theorem Wu {cs:List Value} {d:Int} (h:(bQ.ty 3).rd F w cs d):cs= [.int .i64 d]:=by
 change e4 (fun t=>(fK H6 t).ty) F w [.i .i64] cs (d,()) at h
 obtain ⟨_,_,rfl,rfl,rfl⟩:=h
 rfl
theorem axt {F':Nat->Prop} {cs:List Value} {d:J.Field} (h:J.iD.rd F w cs d):(bQ.ty 136).rd F' w cs d:=by
 change cs=_ at h
 subst h
 change e4 (fun t=>(fK DR t).ty) F' w [.s,.i .i64,.s] _ (d.Name,d.Kind.Kind,d.Kind.aq,())
 exact ⟨_,_,rfl,rfl,_,_,rfl,rfl,_,_,rfl,rfl,rfl⟩
theorem axv {F':Nat->Prop} {cs:List Value} {d:J.Target} (h:J.jw.rd F w cs d):(bQ.ty 166).rd F' w cs d:=by
 change cs=_ at h
 subst h
 change e4 (fun t=>(fK H7 t).ty) F' w [.i .i64,.i .i64] _ (d.aq,d.Method,())
 exact ⟨_,_,rfl,rfl,_,_,rfl,rfl,rfl⟩
theorem axu {F':Nat->Prop} {cs:List Value} {d:List UInt8} (h:iC.rd F w cs d):(bQ.ty 9).rd F' w cs d:=by
 change cs=_ at h
 subst h
 change e4 (fun t=>(fK H8 t).ty) F' w [.s] _ (d,())
 exact ⟨_,_,rfl,rfl,rfl⟩
theorem an5 {es:List MapEntry} {d:List (List UInt8 × Int)} (h: @jz bQ F w 9 3 E6 es d):Mh lg (Value.int .i64) es d:=by
 induction es generalizing d with
 | nil=>cases d with
   | nil=>rfl
   | cons p d=>exact h.elim
 | cons e es bi=>cases d with
   | nil=>exact h.elim
   | cons p d=>
     obtain ⟨I,⟨xs,aa,au⟩,bb⟩:=h
     have aa:=Wu aa
     subst aa
     have:=bi bb
     unfold Mh at this ⊢
     rw [List.map_cons,List.map_cons,this]
     rw [show e.val= .int .i64 p.2 from au,show e.key=lg.enc p.1 from I]
abbrev v8 (cs:List J.aq) (b1:List (List UInt8 × Int)) (iB:List Int):List (aJ bQ.El):=[.c 117 [.s 134 (cs:List (bQ.El 134)),.m 1,.s 3 (iB:List (bQ.El 3))],.m 9 3 (b1:List (bQ.El 9 × bQ.El 3))]
theorem aaK {W:World} {M0:List Nat} {X:Nat->Prop} {ρ vs:List Value} {cs:List J.aq} {b1:List (List UInt8 × Int)} {iB:List Int} {n:Int}
 (hm:Mem bQ W M0 X (v8 cs b1 iB) ρ w) (af:a4 bQ (bm X (v8 cs b1 iB) ρ w) w ρ (v8 cs b1 iB) [.b 0 0,.p (.int .i64 n)] vs) :
 ∃ g A c r cR bF,vs= [.pointer (some ⟨g,0,none⟩),.int .i64 n]/\bq w [] [] w [] [bw.il g [.slice A cs.length c,.map (some r),.slice cR iB.length bF],cl J.jv A c cs,bw.map lg (Value.int .i64) r b1,cl (eY .i64) cR bF iB]:=by
 have ap:=hm.len
 obtain ⟨aP,BH⟩:=hm.BW (i:=0) rfl
 obtain ⟨I,Zv⟩:=hm.BW (i:=1) rfl
 have b0:=hm.ok 0 _ _ rfl BH
 have bZ:=hm.ok 1 _ _ rfl Zv
 obtain ⟨g,us,rfl,ay,hu⟩:=b0
 obtain ⟨r,rfl,K,cT,es,fJ,aB,he,aH,ah⟩:=bZ
 simp only [a4,aw] at hu af
 obtain ⟨j_,_,rfl,BO,rP,_,rfl,⟨h4,kx,rfl⟩,aEB,_,rfl,ZV,rfl⟩:=hu
 obtain ⟨_,_,rfl,⟨g',fF,rfl⟩,_,_,rfl,rfl,rfl⟩:=af
 rw [BH] at fF
 rw [Zv] at kx
 cases fF
 cases kx
 obtain ⟨A,c,rfl⟩:=kK _ BO
 obtain ⟨cR,bF,rfl⟩:=kK _ ZV
 have aI:∀ k,bm X (v8 cs b1 iB) ρ w k->hH [] w k/\w.heap[k]? =w.heap[k]? :=fun k ai=>⟨⟨by simp,ai.2.2⟩,rfl⟩
 have ary:(cl J.jv A c cs).ok [] w:=iA (fun _ _=>al4) ((b3 (bQ.ty 134)).law aI BO)
 have arA:(cl (eY .i64) cR bF iB).ok [] w:=iA (fun _ _=>Wu) ((b3 (bQ.ty 3)).law aI ZV)
 have bx:∀ k b,w.heap[k]? =some b->k <w.heap.size:=fun k b ai=>by
  rcases Nat.lt_or_ge k w.heap.size with h | h
  · exact h
  · rw [Array.getElem?_eq_none h] at ai;cases ai
 obtain rfl:E6=K:=Option.some.inj cT
 refine ⟨g,A,c,r,cR,bF,rfl,bq.start [] [] w [] _ (by simp) (by simp [b7]) (by simp) (by simp [b7]) fun y hy=>?_⟩
 simp only [List.mem_cons,List.not_mem_nil,or_false] at hy
 rcases hy with rfl | rfl | rfl | rfl
 · exact ⟨by simp [b7],bx _ _ ay,jS (t:=117) (cs:=[.slice A cs.length c,.map (some r),.slice cR iB.length bF]) ay⟩
 · exact ary
 · exact ⟨by simp [b7],bx _ _ aB,es,fJ,aB,an5 he,aH,ah⟩
 · exact arA
end
theorem am8 (F:Nat):(aaj F).hs.Hk aU 83 :=by
 intro aA aG lv h W M0 X ρ w vs hm af
 obtain ⟨⟨⟩,n,⟨⟩⟩:=aA
 obtain ⟨⟨cs,⟨⟩,iB,⟨⟩⟩,b1,⟨⟩⟩:=aG
 have h:Option.map _ (J.rc F ⟨cs,b1,iB⟩ n)=some lv:=h
 obtain ⟨r,aB,rfl⟩:=Option.map_eq_some_iff.1 h
 have hm:Mem bQ W M0 X (v8 cs b1 iB) ρ w:=hm
 obtain ⟨g,A,c,q,cR,bF,rfl,ao⟩:=aaK hm af
 refine ⟨⟨.ret (.r 2 0),v8 cs b1 iB++[.r 136 0 0 (r:List (bQ.El 136))],[]⟩,by kernel_rfl,?_⟩
 refine (amq ao aB).mono fun e w' ⟨ec,c1,xs,he,cf⟩=>?_
 obtain ⟨bj,bk⟩:=hm.ay1 cf (t:=136) rfl fun _ _ _ ad _=>axt ad
 refine ⟨_,bj,bk,fun k ai _=>cf.b_.block k ai (by simp),?_⟩
 subst he
 have ap:ρ.length= 2 :=hm.len
 exact ⟨trivial,_,by rw [List.getElem?_append_right (by omega),ap];rfl,Nat.le_refl _,fun _=>rfl⟩
theorem am9 (F:Nat):(aak F).hs.Hk aU 82 :=by
 intro aA aG lv h W M0 X ρ w vs hm af
 obtain ⟨⟨⟩,n,⟨⟩⟩:=aA
 obtain ⟨⟨cs,⟨⟩,iB,⟨⟩⟩,b1,⟨⟩⟩:=aG
 have h:Option.map _ (J.zv F ⟨cs,b1,iB⟩ n)=some lv:=h
 obtain ⟨r,aB,rfl⟩:=Option.map_eq_some_iff.1 h
 have hm:Mem bQ W M0 X (v8 cs b1 iB) ρ w:=hm
 obtain ⟨g,A,c,q,cR,bF,rfl,ao⟩:=aaK hm af
 refine ⟨⟨.ret (.u [.r 2 0,.r 3 0]),v8 cs b1 iB++[.r 9 0 0 (r.1 :List (bQ.El 9)),.r 166 0 0 (r.2 :List (bQ.El 166))],[]⟩,by kernel_rfl,?_⟩
 refine (amr ao aB).mono fun e w' ⟨ec,c1,xs,c8,c2,ys,he,cf⟩=>?_
 obtain ⟨bj,bk⟩:=hm.ay2 cf (t:=9) (t':=166) rfl (fun _ _ _ ad _=>axu ad) rfl fun _ _ _ ad _=>axv ad
 refine ⟨_,bj,bk,fun k ai _=>cf.b_.block k ai (by simp),?_⟩
 subst he
 have ap:ρ.length= 2 :=hm.len
 refine ⟨_,rfl,_,_,rfl,⟨trivial,_,by rw [List.getElem?_append_right (by omega),ap];rfl,Nat.le_refl _,fun _=>rfl⟩,_,_,rfl,⟨trivial,_,by rw [List.getElem?_append_right (by omega),ap];rfl,Nat.le_refl _,fun _=>rfl⟩,rfl⟩
theorem alY:ia.dr:=⟨⟨fun g h e=>(by cases e),fun g h e=>(by cases e)⟩,fun g fn c _ _ _=>ts (fun _=>rfl) c⟩
theorem ami (F:Nat):(Hg F).dr:=
 ((avg pk (avf pk (ave pk (avd pk (avc pk alY))))).qD (f:=82) (by kernel_rfl) fun ys bl r aj=>HT (am9 F) ys bl r (zR aj)).qD (f:=83) (by kernel_rfl) fun ys bl r aj=>HT (am8 F) ys bl r (zR aj)
end Go.Proofs.YteeliipnilghaaaGreat
namespace bB
open Go Go.RowKit ax J
section
variable {El:Nat->Type}
def MF (bl:List (aJ El)):aL El->Option (aL El)
 | .p u=>some (.p u)
 | .s t l=>some (.s t l)
 | .q t l=>some (.s t l)
 | .r i g=>match nth bl i with
   | some (.r t bE _ l)=>match Nat.beq g bE with
     | true=>some (.s t l)
     | false=>none
   | _=>none
 | _=>none
def DI (bl:List (aJ El)):List (aL El)->Option (List (aL El))
 | []=>some []
 | y::r=>match MF bl y,DI bl r with
   | some fD,some h4=>some (fD::h4)
   | _,_=>none
def aae:List (aL El)->Bool
 | []=>false
 | .r _ _::_=>true
 | _::r=>aae r
def MG (g:List (aL El)->List (aJ El)->D (fx El)) (ys:List (aL El)) (bl:List (aJ El)):D (fx El):=match aae ys,DI bl ys with
 | true,some dU=>(g dU []).bind fun r=>match r.e with
   | .ret (.p u)=>.ok ⟨.ret (.p u),bl,[]⟩
   | _=>.no
 | _,_=>g ys bl
end
section
variable {T:b6} {W w:World} {M0:List Nat} {X:Nat->Prop} {bl:List (aJ T.El)} {ρ:List Value}
theorem al3 (hm:Mem T W M0 X bl ρ w) {y fD:aL T.El} {v:Value} (h:MF bl y=some fD) (af:aw T (bm X bl ρ w) w ρ bl y v):aw T (bm (fun _=>False) ([]:List (aJ T.El)) [] w) w [] [] fD v:=by
 have aI:∀ {b:List (aJ T.El)} {k:Nat},bm X b ρ w k->bm (fun _=>False) ([]:List (aJ T.El)) [] w k/\w.heap[k]? =w.heap[k]? :=fun ai=>⟨⟨fun h=>h,fun ⟨i,B,u,I,aa,_⟩=>by simp at aa,ai.2.2⟩,rfl⟩
 unfold MF at h
 split at h
 · cases h;simp only [aw] at af ⊢;exact af
 · cases h;simp only [aw] at af ⊢;exact (b3 _).law (fun k=>aI) af
 · cases h;simp only [aw] at af ⊢;exact (b3 _).law (fun k=>aI) af.1
 · rename_i i g
   split at h
   · rename_i t bE k l hi
     rw [cY] at hi
     split at h
     · rename_i ah
       have ah:=Nat.eq_of_beq_eq_true ah
       cases h
       simp only [aw] at af ⊢
       obtain ⟨_,u,I,_,au⟩:=af
       rw [hi] at au
       obtain rfl:=au ah
       have aj:=(hm.freeze hi).1.ok i (.z t bE k l) _ (List.getElem?_set_self (List.getElem?_eq_some_iff.1 hi).1) I
       exact (b3 (T.ty t)).law (fun k=>aI) (aj:(b3 (T.ty t)).rd _ w [_] l)
     · cases h
   · cases h
 · cases h
theorem Wt (hm:Mem T W M0 X bl ρ w):∀ {ys dU:List (aL T.El)} {vs:List Value},DI bl ys=some dU->a4 T (bm X bl ρ w) w ρ bl ys vs->a4 T (bm (fun _=>False) ([]:List (aJ T.El)) [] w) w [] [] dU vs
 | [],dU,vs,h,af=>by
   simp only [DI,Option.some.injEq] at h
   subst h
   simpa only [a4] using af
 | y::r,dU,vs,h,af=>by
   simp only [DI] at h
   split at h
   · rename_i dq cd I aa
     cases h
     simp only [a4] at af ⊢
     obtain ⟨u,us,e,bj,bk⟩:=af
     exact ⟨u,us,e,al3 hm I bj,Wt hm aa bk⟩
   · cases h
end
section
variable {E:Env} {f:Nat} {t:dE E}
theorem amF (e3:E.dW= []) {g:List (aL E.T.El)->List (aJ E.T.El)->D (fx E.T.El)} (hc:kQ E f g):kQ E f (MG g):=by
 intro ys bl r aj W M0 X ρ w vs hm ay af
 unfold MG at aj
 split at aj
 · rename_i dU _ ah
   obtain ⟨fR,aP,I⟩:=D.j7 aj
   split at I
   · rename_i u hu
     have I:(⟨.ret (.p u),bl,[]⟩:fx E.T.El)=r:=I
     subst I
     refine (hc dU [] fR aP w [] (fun _=>False) [] w vs (aaS w) (fun g y ay=>by rw [e3] at ay;simp [eI] at ay) (Wt hm ah af)).mono fun e w' ⟨ρ',ea,_,_,aB⟩=>?_
     refine ⟨ρ,hm.fg ea.b_,Mem.CG ea.b_,fun k ai _=>ea.b_.block k ai (by simp),?_⟩
     rw [hu] at aB
     cases e with
     | returned v=>
       simp only [AY,aw] at aB ⊢
       exact aB
     | panicked vf=>exact aB.elim
     | outgrown=>exact aB.elim
   · exact I.elim
 · exact hc ys bl r aj W M0 X ρ w vs hm ay af
noncomputable def dE.qK (t:dE E) (f:Nat):dE E:=t.f f (MG (t.bG f))
theorem dE.dr.qK (a5:du E) (e3:E.dW= []) (h:t.dr) {f:Nat} (ag:fA E.cx f=true):(t.qK f).dr:=
 h.qD ag (amF e3 fun ys bl r aj=>((n8 a5 h.ce h.le 100).ok f ys bl r aj).2)
end
end bB
namespace bB
open Go Go.RowKit ax J
structure aX (E:Env) where
 t:dE E
 ok:du E->t.dr
 dW:E.dW= []
section
variable {E:Env}
noncomputable def aX.rt (s:aX E) (f:Nat) (c:ih E.T) (he:c.Eq E s.t.bG s.t.LE f) (ag:fA E.cx f=true:=by kernel_rfl):aX E:=⟨s.t.f f (c.run E),fun h=>(s.ok h).rt h s.dW ag he,s.dW⟩
noncomputable def aX.yB (s:aX E) (f:Nat) (c:ih E.T) (he:c.Eq E s.t.bG s.t.LE f) (ag:fA E.cx f=true:=by kernel_rfl):aX E:=⟨s.t.yB f c,fun h=>(s.ok h).aoU h s.dW ag he,s.dW⟩
noncomputable def aX.Kz (s:aX E) (f:Nat) (c:o_ E.T) (he:c.Eq E s.t.bG s.t.LE f) (ag:fA E.cx f=true:=by kernel_rfl):aX E:=⟨s.t.f f (c.run E),fun h=>(s.ok h).Kz h s.dW ag he,s.dW⟩
noncomputable def aX.fn (s:aX E) (f:Nat) (c:fw E.T) (he:c.Eq E s.t.bG s.t.LE f) (ag:fA E.cx f=true:=by kernel_rfl):aX E:=⟨s.t.f f (c.run E),fun h=>(s.ok h).fn h s.dW ag he,s.dW⟩
noncomputable def aX.iP (s:aX E) (f:Nat) (c:jO E.T) (he:c.Eq E s.t.bG s.t.LE f) (ag:fA E.cx f=true:=by kernel_rfl):aX E:=⟨s.t.f f (c.run E),fun h=>(s.ok h).iP h s.dW ag he,s.dW⟩
noncomputable def aX.qK (s:aX E) (f:Nat) (ag:fA E.cx f=true:=by kernel_rfl):aX E:=⟨s.t.qK f,fun h=>(s.ok h).qK h s.dW ag,s.dW⟩
noncomputable def aX.add (s:aX E) (f:Nat) (r:List (aL E.T.El)->List (aJ E.T.El)->D (fx E.T.El)) (hc:kQ E f r) (ag:fA E.cx f=true:=by kernel_rfl):aX E:=⟨s.t.f f r,fun h=>(s.ok h).qD ag hc,s.dW⟩
noncomputable def aX.bX (s:aX E) (g i F:Nat) (c:bJ E.T) (he:c.ra.lK E s.t.bG (s.t.LE g) (lq E.P g) i (lQ E.P g i)) (I:p0 E.P g i=true:=by kernel_rfl):aX E:=⟨s.t.l g i (c.run E F),fun h=>(s.ok h).bX h s.dW I he F,s.dW⟩
noncomputable def aX.Fj (s:aX E) (g i F:Nat) (c:bJ E.T) (he:c.ra.lK E s.t.bG (s.t.LE g) (lq E.P g) i (lQ E.P g i)) (I:p0 E.P g i=true:=by kernel_rfl):aX E:=⟨s.t.Fj g i c F,fun h=>(s.ok h).at2 h s.dW I he F,s.dW⟩
noncomputable def aX.rh (s:aX E) (g i F:Nat) (c:ib E.T) (he:c.Eq E s.t.bG (s.t.LE g) (lq E.P g) i (lQ E.P g i)) (I:p0 E.P g i=true:=by kernel_rfl):aX E:=⟨s.t.l g i (c.run E F),fun h=>(s.ok h).rh h s.dW I he F,s.dW⟩
end
end bB
