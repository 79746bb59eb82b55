/- Part 4 of the proof that is ended in the last text: small logic, what the functions compute, walks, plain laws. -/
import Derived.Test.YteeliipnilghaaaGreatZc3
import Derived.Test.YteeliipnilghaaaGreatChecked
import Derived.KernelRfl
namespace J
def a9 {ρ α:Type} (o:Option (Way ρ α)):Option (α ⊕ ρ):=match o with
 | none=>none
 | some (.go a)=>some (.inl a)
 | some (.out r)=>some (.inr r)
noncomputable def c0 {α:Type} (p:Prop) (o:Option α):Option α:=@ite _ p (Classical.propDecidable p) o none
theorem dt {α:Type} {p:Prop} {o:Option α} (h:p):c0 p o=o:=by unfold c0;exact if_pos h
theorem dr {α:Type} {p:Prop}:c0 p (none:Option α)=none:=by unfold c0;split <;> rfl
theorem dT {α:Type} {p:Prop} {o:Option α} {r:α} (h:c0 p o=some r):p/\o=some r:=by
 unfold c0 at h
 split at h
 · rename_i aD
   exact ⟨aD,h⟩
 · cases h
section
variable {α β cp oQ ρ σ:Type}
theorem atn (o:Option (Way ρ α)) (k:α->Option (Way ρ β)):cS o k=dx (a9 o) k (fun r=>some (.out r)):=by
 cases o with
 | none=>rfl
 | some y=>cases y <;> rfl
theorem aty (o:Option (Way ρ α)) (k:α->Option ρ):cd o k=dx (a9 o) k (fun r=>some r):=by
 cases o with
 | none=>rfl
 | some y=>cases y <;> rfl
theorem atF (a:α):a9 (some (.go a):Option (Way ρ α))=some (.inl a):=rfl
theorem atG (r:ρ):a9 (some (.out r):Option (Way ρ α))=some (.inr r):=rfl
theorem atH:a9 (none:Option (Way ρ α))=none:=rfl
theorem atI (o:Option cp) (f:cp->Option (Way ρ α)):a9 (o.bind f)=o.bind fun x=>a9 (f x):=by cases o <;> rfl
theorem atJ (c:Bool) (x y:Option (Way ρ α)):a9 (cond c x y)=cond c (a9 x) (a9 y):=by cases c <;> rfl
theorem atK (o:Option (cp ⊕ oQ)) (f:cp->Option (Way ρ α)) (g:oQ->Option (Way ρ α)):a9 (dx o f g)=dx o (fun x=>a9 (f x)) (fun x=>a9 (g x)):=by
 cases o with
 | none=>rfl
 | some y=>cases y <;> rfl
theorem atL (a:α) (k:α->Option cp) (l:β->Option cp):dx (some (.inl a)) k l=k a:=rfl
theorem ato (b:β) (k:α->Option cp) (l:β->Option cp):dx (some (.inr b)) k l=l b:=rfl
theorem atp (k:α->Option cp) (l:β->Option cp):dx none k l=none:=rfl
theorem atq (o:Option oQ) (f:oQ->Option (α ⊕ β)) (k:α->Option cp) (l:β->Option cp):dx (o.bind f) k l=o.bind fun x=>dx (f x) k l:=by cases o <;> rfl
theorem atr (c:Bool) (x y:Option (α ⊕ β)) (k:α->Option cp) (l:β->Option cp):dx (cond c x y) k l=cond c (dx x k l) (dx y k l):=by cases c <;> rfl
theorem ats (o:Option (ρ ⊕ σ)) (f:ρ->Option (α ⊕ β)) (g:σ->Option (α ⊕ β)) (k:α->Option cp) (l:β->Option cp):dx (dx o f g) k l=dx o (fun x=>dx (f x) k l) (fun x=>dx (g x) k l):=by
 cases o with
 | none=>rfl
 | some y=>cases y <;> rfl
theorem att (o:Option α) (f:α->Option β) (g:β->Option cp):(o.bind f).bind g=o.bind fun x=>(f x).bind g:=by cases o <;> rfl
theorem atu (a:α) (f:α->Option β):(some a).bind f=f a:=rfl
theorem atv (f:α->Option β):Option.bind none f=none:=rfl
theorem atw (c:Bool) (x y:Option α) (f:α->Option β):(cond c x y).bind f=cond c (x.bind f) (y.bind f):=by cases c <;> rfl
theorem atx (o:Option (ρ ⊕ σ)) (k:ρ->Option α) (l:σ->Option α) (f:α->Option β):(dx o k l).bind f=dx o (fun x=>(k x).bind f) (fun x=>(l x).bind f):=by
 cases o with
 | none=>rfl
 | some y=>cases y <;> rfl
theorem atz (o:Option α) (f:α->Option β) (g:β->cp):(o.bind f).map g=o.bind fun x=>(f x).map g:=by cases o <;> rfl
theorem atA (c:Bool) (x y:Option α) (g:α->cp):(cond c x y).map g=cond c (x.map g) (y.map g):=by cases c <;> rfl
theorem atB (a:α) (g:α->cp):(some a).map g=some (g a):=rfl
theorem atC (g:α->cp):Option.map g none=none:=rfl
theorem atD (o:Option (ρ ⊕ σ)) (k:ρ->Option α) (l:σ->Option α) (g:α->cp):(dx o k l).map g=dx o (fun x=>(k x).map g) (fun x=>(l x).map g):=by
 cases o with
 | none=>rfl
 | some y=>cases y <;> rfl
theorem atE {cD:Type} (k:cD) (b:cD->Option α):join k b=b k:=rfl
def iw {α β:Type} (o:Option (Option α × β)):Option ((α × β) ⊕ β):=match o with
 | none=>none
 | some (some v,e)=>some (.inl (v,e))
 | some (none,e)=>some (.inr e)
theorem aaj (o:Option (Option α × β)) (f:Option α × β->Option cp):o.bind f=dx (iw o) (fun p=>f (some p.1,p.2)) (fun e=>f (none,e)):=by
 rcases o with _ | ⟨_ | v,e⟩ <;> rfl
theorem aak (v:α) (e:β):iw (some (some v,e))=some (.inl (v,e)):=rfl
theorem aal (e:β):iw (some ((none:Option α),e))=some (.inr e):=rfl
theorem aam:iw (none:Option (Option α × β))=none:=rfl
theorem aan (o:Option cp) (f:cp->Option (Option α × β)):iw (o.bind f)=o.bind fun x=>iw (f x):=by cases o <;> rfl
theorem aao (c:Bool) (x y:Option (Option α × β)):iw (cond c x y)=cond c (iw x) (iw y):=by cases c <;> rfl
theorem aap (o:Option (cp ⊕ oQ)) (f:cp->Option (Option α × β)) (g:oQ->Option (Option α × β)):iw (dx o f g)=dx o (fun x=>iw (f x)) (fun x=>iw (g x)):=by
 cases o with
 | none=>rfl
 | some y=>cases y <;> rfl
theorem ati (b x:Bool):cond b (some x) (some false)=some (b && x):=by cases b <;> rfl
theorem atj {α:Type} (a b:Bool) (x y:Option α):cond a (cond b x y) y=cond (a && b) x y:=by cases a <;> rfl
theorem QS {α:Type} (a b:Bool) (x y:Option α):cond a x (cond b x y)=cond (a || b) x y:=by cases a <;> rfl
theorem a6:(∀ {α β ρ:Type} (o:Option (Way ρ α)) (k:α->Option (Way ρ β)),cS o k=dx (a9 o) k (fun r=>some (.out r)))/\(∀ {α ρ:Type} (o:Option (Way ρ α)) (k:α->Option ρ),cd o k=dx (a9 o) k (fun r=>some r))/\(∀ {α ρ:Type} (a:α),a9 (some (.go a):Option (Way ρ α))=some (.inl a))/\(∀ {α ρ:Type} (r:ρ),a9 (some (.out r):Option (Way ρ α))=some (.inr r))/\(∀ {α ρ:Type},a9 (none:Option (Way ρ α))=none)/\(∀ {α cp ρ:Type} (o:Option cp) (f:cp->Option (Way ρ α)),a9 (o.bind f)=o.bind fun x=>a9 (f x))/\(∀ {α ρ:Type} (c:Bool) (x y:Option (Way ρ α)),a9 (cond c x y)=cond c (a9 x) (a9 y))/\(∀ {α cp oQ ρ:Type} (o:Option (cp ⊕ oQ)) (f:cp->Option (Way ρ α)) (g:oQ->Option (Way ρ α)),a9 (dx o f g)=dx o (fun x=>a9 (f x)) (fun x=>a9 (g x)))/\(∀ {α β cp:Type} (a:α) (k:α->Option cp) (l:β->Option cp),dx (some (.inl a)) k l=k a)/\(∀ {α β cp:Type} (b:β) (k:α->Option cp) (l:β->Option cp),dx (some (.inr b)) k l=l b)/\(∀ {α β cp:Type} (k:α->Option cp) (l:β->Option cp),dx none k l=none)/\(∀ {α β cp oQ:Type} (o:Option oQ) (f:oQ->Option (α ⊕ β)) (k:α->Option cp) (l:β->Option cp),dx (o.bind f) k l=o.bind fun x=>dx (f x) k l)/\(∀ {α β cp:Type} (c:Bool) (x y:Option (α ⊕ β)) (k:α->Option cp) (l:β->Option cp),dx (cond c x y) k l=cond c (dx x k l) (dx y k l))/\(∀ {α β cp ρ σ:Type} (o:Option (ρ ⊕ σ)) (f:ρ->Option (α ⊕ β)) (g:σ->Option (α ⊕ β)) (k:α->Option cp) (l:β->Option cp),dx (dx o f g) k l=dx o (fun x=>dx (f x) k l) (fun x=>dx (g x) k l))/\(∀ {α β cp:Type} (o:Option α) (f:α->Option β) (g:β->Option cp),(o.bind f).bind g=o.bind fun x=>(f x).bind g)/\(∀ {α β:Type} (a:α) (f:α->Option β),(some a).bind f=f a)/\(∀ {α β:Type} (f:α->Option β),Option.bind none f=none)/\(∀ {α β:Type} (c:Bool) (x y:Option α) (f:α->Option β),(cond c x y).bind f=cond c (x.bind f) (y.bind f))/\(∀ {α β ρ σ:Type} (o:Option (ρ ⊕ σ)) (k:ρ->Option α) (l:σ->Option α) (f:α->Option β),(dx o k l).bind f=dx o (fun x=>(k x).bind f) (fun x=>(l x).bind f))/\(∀ {α β cp:Type} (o:Option α) (f:α->Option β) (g:β->cp),(o.bind f).map g=o.bind fun x=>(f x).map g)/\(∀ {α cp:Type} (c:Bool) (x y:Option α) (g:α->cp),(cond c x y).map g=cond c (x.map g) (y.map g))/\(∀ {α cp:Type} (a:α) (g:α->cp),(some a).map g=some (g a))/\(∀ {α cp:Type} (g:α->cp),Option.map g none=none)/\(∀ {α cp ρ σ:Type} (o:Option (ρ ⊕ σ)) (k:ρ->Option α) (l:σ->Option α) (g:α->cp),(dx o k l).map g=dx o (fun x=>(k x).map g) (fun x=>(l x).map g))/\(∀ {α:Type} {cD:Type} (k:cD) (b:cD->Option α),join k b=b k):=⟨atn,aty,atF,atG,atH,atI,atJ,atK,atL,ato,atp,atq,atr,ats,att,atu,atv,atw,atx,atz,atA,atB,atC,atD,atE⟩
end
end J
namespace bz
open Go Go.RowKit av J
theorem bI.bS {E:Env} {bD:fB E} {LE:nL E} {n id:Nat} {body:Code} {c:bI E.T} (aN:∀ d,c.fn 0 d=none)
 (I:∀ k (ax:dA E.T.El c.bA) (aB:cH E.T.El c.pbs) q,c.fn (k+ 1) (ax,aB)=some q->(den E bD LE n body (uX E c.q0 ax aB)).run (c.q0.fin E id k)=(c.fn (k+ 1) (ax,aB)).map fun r=>bM (ax,aB) c.ws r):c.q0.lH E bD LE n id body:=
 ⟨fun d=>by exact (congrArg (Option.map _) (aN d)).trans rfl,fun k ax aB r h=>by
  obtain ⟨q,e1,_⟩:=Option.map_eq_some_iff.1 h
  exact (I k ax aB q e1).trans h⟩
end bz
namespace bz
open Go Go.RowKit av J
def okF (P:Program) (f:Nat):Bool:=match P.funcs[f]? with
 | some fn=>!(fn.name == "runtime.NumGoroutine") && !fn.body.isNone
 | none=>false
theorem aay {P:Program} {f:Nat} (h:okF P f=true) (args:Array Value) (w:World):(callFunc f args).run P w= .ok (.enter f args) w:=by
 unfold okF at h
 split at h
 · rename_i fn af
   simp only [Bool.and_eq_true,Bool.not_eq_true'] at h
   have I: ¬ fn.name= "runtime.NumGoroutine" :=fun e=>by rw [e] at h;simp at h
   cases ah:fn.body with
   | none=>rw [ah] at h;simp at h
   | some c=>simp [callFunc,go_sem,af,I,ah]
 · cases h
def Jy (P:Program):List Nat->Bool
 | []=>true
 | f::r=>okF P f && Jy P r
theorem Q3 {P:Program}:∀ {l:List Nat} {f:Nat},Jy P l=true->f ∈ l->okF P f=true
 | g::r,f,h,af=>by
   simp only [Jy,Bool.and_eq_true] at h
   rcases List.mem_cons.1 af with rfl | af
   · exact h.1
   · exact Q3 h.2 af
theorem JV {α:Type} {A B:db α} {F F':Nat->Prop} {w w':World} (h:∀ cs d,A.rd F w cs d->B.rd F' w' cs d):∀ {l:List α} {xs:List Value},dO A F w xs l->dO B F' w' xs l
 | [],xs,ad=>ad
 | d::r,xs,ad=>by
   obtain ⟨cs,ys,rfl,I,aa⟩:=ad
   exact ⟨cs,ys,rfl,h _ _ I,JV h aa⟩
theorem iy {α:Type} {A B:db α} {F:Nat->Prop} {w:World} (h:∀ cs d,A.rd F w cs d->B.rd F w cs d) {xs:List Value} {l:List α} (ad:(bZ A).rd F w xs l):(bZ B).rd F w xs l:=by
 obtain ⟨P,c,e,I,aa,aq,a'⟩:=ad
 refine ⟨P,c,e,I,aa,aq,fun ak=>?_⟩
 obtain ⟨dH,bB,ys,fI,iP⟩:=a' ak
 exact ⟨dH,bB,ys,JV h fI,iP⟩
def xb (P:Program) (T:b3) (t:Nat) (e:b5 T.El t):Prop:=∀ f,e.eq=some f-> ∀ F w xs ys d e',e.ty.rd F w xs d->e.ty.rd F w ys e'-> ∀ (o:Oper) (a:Act) (x y:Operand) (t':TypeId) (b:Bool),o.op= .binOp (cond b .eql .neq) t x y t'->a.eval x= .agg ⟨xs⟩->a.eval y= .agg ⟨ys⟩-> ∀ w',bd P o a w' (.bool (cond b (f d e') (!f d e'))) w'
def MJ (P:Program) (T:b3):List (Σ t,b5 T.El t)->Prop
 | []=>True
 | p::r=>xb P T p.1 p.2 /\MJ P T r
theorem MI {P:Program} {T:b3} {t:Nat}:∀ {es:List (Σ t,b5 T.El t)},MJ P T es->xb P T t (fG es t)
 | [],_=>fun f af=>by cases af
 | p::r,h=>by
   simp only [fG]
   split
   · rename_i e _
     subst e
     exact h.1
   · exact MI h.2
theorem fk {P:Program} {T:b3} {t:Nat} {e:b5 T.El t} (h:e.eq=none):xb P T t e:=fun f af=>by rw [h] at af;cases af
section
variable {E:Env} {f:Nat}
theorem Z2 (W:World):Mem E.T W [] (fun _=>False) [] [] W:=
 ⟨bp.refl _ _,rfl,fun _ h=>h.elim,fun k ⟨i,B,h,I,_⟩=>by simp at I,fun i j B C h g I=>by simp at I,fun i B h I=>by simp at I⟩
theorem asv (eU:E.dR= []) {g:List (aI E.T.El)->List (aF E.T.El)->D (fu E.T.El)} (hc:kO E f g) {ys:List (aI E.T.El)} (aj:(g ys []).out ⟨.ret (.p (.bool true)),[],[]⟩) {W:World} {vs:List Value} (ag:a3 E.T (fun k=>k <W.heap.size) W [] [] ys vs) :
 Calls E.P f ⟨vs⟩ W fun e w'=>e= .returned (.bool true)/\bp [] W w':=by
 have aN:a3 E.T (bi (fun _=>False) ([]:List (aF E.T.El)) [] W) W [] [] ys vs:=a3.later (fun k ai=>⟨⟨fun h=>h,fun ⟨i,B,h,I,_⟩=>by simp at I,ai⟩,rfl⟩) .refl ys ag
 refine (hc ys [] _ aj W [] (fun _=>False) [] W vs (Z2 W) (fun g y aw=>by rw [eU] at aw;simp [ev] at aw) aN).mono fun e w' ⟨ρ',hm,_,_,ay⟩=>?_
 cases e with
 | returned v=>
   have ay:v= .bool true:=by
    simp only [Ao,au] at ay
    exact ay
   exact ⟨by rw [ay],hm.b6⟩
 | panicked uG=>exact ay.elim
 | outgrown=>exact ay.elim
end
end bz
namespace bz
open Go Go.RowKit av J
section
variable {T:b3} {W w w':World} {M0:List Nat} {X:Nat->Prop} {bl:List (aF T.El)} {ρ:List Value} {E:List a7} {D:List bt}
variable {t sz:Nat} {h:Value} {l:List (T.El t)} {xs:List Value} {R:db (T.El t)}
variable {t' ry:Nat} {h':Value} {l':List (T.El t')} {eL:List Value} {Va:db (T.El t')}
theorem aoX {A:Option Addr} {n c k:Nat} (ai:k ∈ ah (.slice A n c)):k ∈ (Value.slice A n c).ownBlock.toList:=by
 cases A <;> cases c <;> simp_all [ah,Value.ownBlock]
theorem SG {F:Nat->Prop} {M:List Nat} (ap:(a7.row t sz h l xs).ok w') (ay:(bt.rows R xs l).ok M w') (aj:(T.ty t).size=sz) (fa:∀ F cs d,R.rd F w' cs d-> ∀ F',(T.ty t).rd F' w' cs d) (g k:Nat):ia T F w' ρ bl (.r t g k l) h:=by
 subst aj
 obtain ⟨A,c,rfl,_⟩:=Fm ap
 exact ⟨A,c,xs,rfl,.inl ap,JV (fun cs d ad=>fa _ _ _ ad _) ay⟩
theorem HJ (ao:bn w [] [] w' E D) (hi:a7.row t sz h l xs ∈ E) {g k:Nat}:∀ q ∈ bw (aF.r t g k l:aF T.El) h,q ∈ (a7.row t sz h l xs).bw/\w.heap.size<=q/\q <w'.heap.size:=fun q aQ=>by
 obtain ⟨A,c,rfl,_⟩:=Fm (ao.ok _ hi)
 have aN:q ∈ (a7.row t sz (.slice A l.length c) l xs).bw:=aoX aQ
 have I:=ao.lt q (List.mem_flatMap.2 ⟨_,hi,aN⟩)
 exact ⟨aN,I.2.resolve_left (by simp),I.1⟩
theorem Mem.axJ (hm:Mem T W M0 X bl ρ w) (ao:bn w [] [] w' (a7.row t sz h l xs::E) (bt.rows R xs l::D)) (aj:(T.ty t).size=sz) (fa:∀ F cs d,R.rd F w' cs d-> ∀ F',(T.ty t).rd F' w' cs d) :
 Mem T W M0 X (bl++[.r t 0 0 l]) (ρ++[h]) w'/\To X bl (bl++[.r t 0 0 l]) ρ (ρ++[h]) w w':=
 ⟨hm.push ao.b6 (fun q aQ=>(HJ (xs:=xs) (sz:=sz) ao (by simp) q aQ).2) (SG (ao.e 0 rfl) (ao.d 0 rfl) aj fa 0 0),hm.ww ao.b6 fun q aQ=>(HJ (xs:=xs) (sz:=sz) ao (by simp) q aQ).2⟩
theorem Mem.axK (hm:Mem T W M0 X bl ρ w) (ao:bn w [] [] w' (a7.row t sz h l xs::a7.row t' ry h' l' eL::E) (bt.rows R xs l::bt.rows Va eL l'::D)) (aj:(T.ty t).size=sz) (fa:∀ F cs d,R.rd F w' cs d-> ∀ F',(T.ty t).rd F' w' cs d)
 (Iy:(T.ty t').size=ry) (aoE:∀ F cs d,Va.rd F w' cs d-> ∀ F',(T.ty t').rd F' w' cs d) :
 Mem T W M0 X (bl++[.r t 0 0 l,.r t' 0 0 l']) (ρ++[h,h']) w'/\To X bl (bl++[.r t 0 0 l,.r t' 0 0 l']) ρ (ρ++[h,h']) w w':=by
 have f1:=HJ (T:=T) (g:=0) (k:=0) (l:=l) (h:=h) (xs:=xs) (sz:=sz) ao (by simp)
 have f2:=HJ (T:=T) (g:=0) (k:=0) (l:=l') (h:=h') (xs:=eL) (sz:=ry) ao (by simp)
 have aL:=ao.br
 simp only [b4,List.flatMap_cons] at aL
 refine ⟨hm.aaZ ao.b6 (fun q aQ=>(f1 q aQ).2) (fun q aQ=>(f2 q aQ).2) (fun q I aa=>?_) (SG (ao.e 0 rfl) (ao.d 0 rfl) aj fa 0 0) (SG (ao.e 1 rfl) (ao.d 1 rfl) Iy aoE 0 0),hm.Tc ao.b6 (fun q aQ=>(f1 q aQ).2) fun q aQ=>(f2 q aQ).2⟩
 exact (List.nodup_append.1 aL).2.2 q (f1 q I).1 q (List.mem_append_left _ (f2 q aa).1) rfl
end
end bz
namespace Go.Proofs.YteeliipnilghaaaGreat
open Go Go.RowKit av bz
def ct:Nat->Type:=WR [(2,Int),(3,Int),(4,Bool),(5,UInt8),(6,UInt8),(9,List UInt8),(10,List UInt8),(11,List UInt8),(21,Int),(22,List Int),(24,J.aV),(136,J.Field),(128,J.Kind),(157,J.Handler),(131,J.Method),(134,J.al),(25,List J.al),(124,List J.Field),(26,List (List J.Field)),(120,List (List UInt8)),(27,List (List (List UInt8))),(166,J.Target),(121,List J.Target),(28,List (List J.Target)),(30,J.aP),(31,Int),(69,J.cb),(126,List J.Kind),(129,List J.Handler),(132,List J.Method),(192,Int),(202,List (List Int)),(204,List UInt8),(219,UInt8),(220,UInt8),(223,Int),(224,Int)]
def W3:List (Σ t,b5 ct t):=[]
def e2:b5 ct 2 :=eJ W3 false [.i .i64] (fun (d:Int)=>(d,())) (fun (p:Int × Unit)=>p.1) none (some IK)
def Hy:List (Σ t,b5 ct t):=⟨2,e2⟩::W3
def e3:b5 ct 3 :=eJ Hy false [.i .i64] (fun (d:Int)=>(d,())) (fun (p:Int × Unit)=>p.1) none (some IK)
def Xl:List (Σ t,b5 ct t):=⟨3,e3⟩::Hy
def e4:b5 ct 4 :=eJ Xl false [.b] (fun (d:Bool)=>(d,())) (fun (p:Bool × Unit)=>p.1) none none
def MO:List (Σ t,b5 ct t):=⟨4,e4⟩::Xl
def e5:b5 ct 5 :=eJ MO false [.y] (fun (d:UInt8)=>(d,())) (fun (p:UInt8 × Unit)=>p.1) none none
def Xo:List (Σ t,b5 ct t):=⟨5,e5⟩::MO
def e6:b5 ct 6 :=eJ Xo false [.y] (fun (d:UInt8)=>(d,())) (fun (p:UInt8 × Unit)=>p.1) none none
def HA:List (Σ t,b5 ct t):=⟨6,e6⟩::Xo
def AM:b5 ct 9 :=eJ HA false [.s] (fun (d:List UInt8)=>(d,())) (fun (p:(List UInt8) × Unit)=>p.1) none (some Ew)
def Xq:List (Σ t,b5 ct t):=⟨9,AM⟩::HA
def AK:b5 ct 10 :=eJ Xq false [.s] (fun (d:List UInt8)=>(d,())) (fun (p:(List UInt8) × Unit)=>p.1) none (some Ew)
def W4:List (Σ t,b5 ct t):=⟨10,AK⟩::Xq
def AL:b5 ct 11 :=eJ W4 false [.s] (fun (d:List UInt8)=>(d,())) (fun (p:(List UInt8) × Unit)=>p.1) none (some Ew)
def W5:List (Σ t,b5 ct t):=⟨11,AL⟩::W4
def Wx:b5 ct 21 :=eJ W5 false [.i .i32] (fun (d:Int)=>(d,())) (fun (p:Int × Unit)=>p.1) none none
def Xf:List (Σ t,b5 ct t):=⟨21,Wx⟩::W5
def Wz:b5 ct 22 :=eJ Xf false [.l 3] (fun (d:List Int)=>(d,())) (fun (p:(List Int) × Unit)=>p.1) none none
def Xh:List (Σ t,b5 ct t):=⟨22,Wz⟩::Xf
def WD:b5 ct 24 :=eJ Xh true [.l 3,.i .i64,.i .i64,.i .i64,.i .i64,.l 3,.i .i64] (fun (d:J.aV)=>(d.Words,d.ar,d.aO,d.aZ,d.aU,d.aS,d.Next,())) (fun (p:(List Int) × Int × Int × Int × Int × (List Int) × Int × Unit)=>(⟨p.1,p.2.1,p.2.2.1,p.2.2.2.1,p.2.2.2.2.1,p.2.2.2.2.2.1,p.2.2.2.2.2.2.1⟩:J.aV)) none none
def Dc:List (Σ t,b5 ct t):=⟨24,WD⟩::Xh
def MD:b5 ct 136 :=eJ Dc true [.s,.i .i64,.s] (fun (d:J.Field)=>(d.Name,d.Kind.Kind,d.Kind.al,())) (fun (p:(List UInt8) × Int × (List UInt8) × Unit)=>(⟨p.1,⟨p.2.1,p.2.2.1⟩⟩:J.Field)) (some fun (d e:J.Field)=>decide (d=e)) none
def Hw:List (Σ t,b5 ct t):=⟨136,MD⟩::Dc
def MC:b5 ct 128 :=eJ Hw true [.i .i64,.s] (fun (d:J.Kind)=>(d.Kind,d.al,())) (fun (p:Int × (List UInt8) × Unit)=>(⟨p.1,p.2.1⟩:J.Kind)) (some fun (d e:J.Kind)=>decide (d=e)) none
def Hu:List (Σ t,b5 ct t):=⟨128,MC⟩::Hw
def ME:b5 ct 157 :=eJ Hu true [.i .i64,.i .i64,.i .i64,.s] (fun (d:J.Handler)=>(d.From,d.To,d.hS,d.al,())) (fun (p:Int × Int × Int × (List UInt8) × Unit)=>(⟨p.1,p.2.1,p.2.2.1,p.2.2.2.1⟩:J.Handler)) (some fun (d e:J.Handler)=>decide (d=e)) none
def Hx:List (Σ t,b5 ct t):=⟨157,ME⟩::Hu
def Wr:b5 ct 131 :=eJ Hx true [.s,.b,.l 128,.i .i64,.s,.i .i64,.i .i64,.s,.l 157] (fun (d:J.Method)=>(d.Name,d.Static,d.cr,d.Returns.Kind,d.Returns.al,d.g4,d.g2,d.Code,d.cw,())) (fun (p:(List UInt8) × Bool × (List J.Kind) × Int × (List UInt8) × Int × Int × (List UInt8) × (List J.Handler) × Unit)=>(⟨p.1,p.2.1,p.2.2.1,⟨p.2.2.2.1,p.2.2.2.2.1⟩,p.2.2.2.2.2.1,p.2.2.2.2.2.2.1,p.2.2.2.2.2.2.2.1,p.2.2.2.2.2.2.2.2.1⟩:J.Method)) none none
def Hv:List (Σ t,b5 ct t):=⟨131,Wr⟩::Hx
def Wt:b5 ct 134 :=eJ Hv true [.s,.s,.l 136,.l 131] (fun (d:J.al)=>(d.Name,d.cO,d.Fields,d.bb,())) (fun (p:(List UInt8) × (List UInt8) × (List J.Field) × (List J.Method) × Unit)=>(⟨p.1,p.2.1,p.2.2.1,p.2.2.2.1⟩:J.al)) none none
def Xa:List (Σ t,b5 ct t):=⟨134,Wt⟩::Hv
def WE:b5 ct 25 :=eJ Xa false [.l 134] (fun (d:List J.al)=>(d,())) (fun (p:(List J.al) × Unit)=>p.1) none none
def ML:List (Σ t,b5 ct t):=⟨25,WE⟩::Xa
def Wo:b5 ct 124 :=eJ ML false [.l 136] (fun (d:List J.Field)=>(d,())) (fun (p:(List J.Field) × Unit)=>p.1) none none
def W8:List (Σ t,b5 ct t):=⟨124,Wo⟩::ML
def WG:b5 ct 26 :=eJ W8 false [.l 124] (fun (d:List (List J.Field))=>(d,())) (fun (p:(List (List J.Field)) × Unit)=>p.1) none none
def MN:List (Σ t,b5 ct t):=⟨26,WG⟩::W8
def Wm:b5 ct 120 :=eJ MN false [.l 9] (fun (d:List (List UInt8))=>(d,())) (fun (p:(List (List UInt8)) × Unit)=>p.1) none none
def W6:List (Σ t,b5 ct t):=⟨120,Wm⟩::MN
def WH:b5 ct 27 :=eJ W6 false [.l 120] (fun (d:List (List (List UInt8)))=>(d,())) (fun (p:(List (List (List UInt8))) × Unit)=>p.1) none none
def Hz:List (Σ t,b5 ct t):=⟨27,WH⟩::W6
def MF:b5 ct 166 :=eJ Hz true [.i .i64,.i .i64] (fun (d:J.Target)=>(d.al,d.Method,())) (fun (p:Int × Int × Unit)=>(⟨p.1,p.2.1⟩:J.Target)) (some fun (d e:J.Target)=>decide (d=e)) none
def MK:List (Σ t,b5 ct t):=⟨166,MF⟩::Hz
def Wn:b5 ct 121 :=eJ MK false [.l 166] (fun (d:List J.Target)=>(d,())) (fun (p:(List J.Target) × Unit)=>p.1) none none
def W7:List (Σ t,b5 ct t):=⟨121,Wn⟩::MK
def WI:b5 ct 28 :=eJ W7 false [.l 121] (fun (d:List (List J.Target))=>(d,())) (fun (p:(List (List J.Target)) × Unit)=>p.1) none none
def Xk:List (Σ t,b5 ct t):=⟨28,WI⟩::W7
def WJ:b5 ct 30 :=eJ Xk true [.l 134,.l 3,.l 124,.l 120,.l 121] (fun (d:J.aP)=>(d.a4,d.a0,d.Fields,d.Names,d.a1,())) (fun (p:(List J.al) × (List Int) × (List (List J.Field)) × (List (List (List UInt8))) × (List (List J.Target)) × Unit)=>(⟨p.1,p.2.1,p.2.2.1,p.2.2.2.1,p.2.2.2.2.1⟩:J.aP)) none none
def Xm:List (Σ t,b5 ct t):=⟨30,WJ⟩::Xk
def WK:b5 ct 31 :=eJ Xm false [.i .i64] (fun (d:Int)=>(d,())) (fun (p:Int × Unit)=>p.1) none (some IK)
def Xn:List (Σ t,b5 ct t):=⟨31,WK⟩::Xm
def WM:b5 ct 69 :=eJ Xn true [.l 134,.l 3,.l 124,.l 120,.l 121] (fun (d:J.cb)=>(d.K.a4,d.K.a0,d.K.Fields,d.K.Names,d.K.a1,())) (fun (p:(List J.al) × (List Int) × (List (List J.Field)) × (List (List (List UInt8))) × (List (List J.Target)) × Unit)=>(⟨⟨p.1,p.2.1,p.2.2.1,p.2.2.2.1,p.2.2.2.2.1⟩⟩:J.cb)) none none
def Xp:List (Σ t,b5 ct t):=⟨69,WM⟩::Xn
def Wp:b5 ct 126 :=eJ Xp false [.l 128] (fun (d:List J.Kind)=>(d,())) (fun (p:(List J.Kind) × Unit)=>p.1) none none
def W9:List (Σ t,b5 ct t):=⟨126,Wp⟩::Xp
def Wq:b5 ct 129 :=eJ W9 false [.l 157] (fun (d:List J.Handler)=>(d,())) (fun (p:(List J.Handler) × Unit)=>p.1) none none
def W_:List (Σ t,b5 ct t):=⟨129,Wq⟩::W9
def Ws:b5 ct 132 :=eJ W_ false [.l 131] (fun (d:List J.Method)=>(d,())) (fun (p:(List J.Method) × Unit)=>p.1) none none
def W':List (Σ t,b5 ct t):=⟨132,Ws⟩::W_
def Wu:b5 ct 192 :=eJ W' false [.i .i64] (fun (d:Int)=>(d,())) (fun (p:Int × Unit)=>p.1) none (some IK)
def Xb:List (Σ t,b5 ct t):=⟨192,Wu⟩::W'
def Wv:b5 ct 202 :=eJ Xb false [.l 22] (fun (d:List (List Int))=>(d,())) (fun (p:(List (List Int)) × Unit)=>p.1) none none
def Xc:List (Σ t,b5 ct t):=⟨202,Wv⟩::Xb
def Ww:b5 ct 204 :=eJ Xc false [.l 5] (fun (d:List UInt8)=>(d,())) (fun (p:(List UInt8) × Unit)=>p.1) none none
def Xd:List (Σ t,b5 ct t):=⟨204,Ww⟩::Xc
def Wy:b5 ct 219 :=eJ Xd false [.y] (fun (d:UInt8)=>(d,())) (fun (p:UInt8 × Unit)=>p.1) none none
def Xg:List (Σ t,b5 ct t):=⟨219,Wy⟩::Xd
def WA:b5 ct 220 :=eJ Xg false [.y] (fun (d:UInt8)=>(d,())) (fun (p:UInt8 × Unit)=>p.1) none none
def Xi:List (Σ t,b5 ct t):=⟨220,WA⟩::Xg
def WB:b5 ct 223 :=eJ Xi false [.i .i32] (fun (d:Int)=>(d,())) (fun (p:Int × Unit)=>p.1) none none
def Xj:List (Σ t,b5 ct t):=⟨223,WB⟩::Xi
def WC:b5 ct 224 :=eJ Xj false [.i .i32] (fun (d:Int)=>(d,())) (fun (p:Int × Unit)=>p.1) none none
def anp:List (Σ t,b5 ct t):=⟨224,WC⟩::Xj
def bO:b3:=⟨ct,anp⟩
theorem amN:ep bO 2 e2:=eP trivial (fun _=>rfl) (fun h=>by rfl) (fun K h F w xs k ad=>by cases h;obtain ⟨v,vs,rfl,I,rfl⟩:=ad;exact I)
theorem amQ:ep bO 3 e3:=eP trivial (fun _=>rfl) (fun h=>by rfl) (fun K h F w xs k ad=>by cases h;obtain ⟨v,vs,rfl,I,rfl⟩:=ad;exact I)
theorem amS:ep bO 4 e4:=eP trivial (fun _=>rfl) (fun h=>by rfl) (fun K h=>by cases h)
theorem amT:ep bO 5 e5:=eP trivial (fun _=>rfl) (fun h=>by rfl) (fun K h=>by cases h)
theorem amW:ep bO 6 e6:=eP trivial (fun _=>rfl) (fun h=>by rfl) (fun K h=>by cases h)
theorem amZ:ep bO 9 AM:=eP trivial (fun _=>rfl) (fun h=>by rfl) (fun K h F w xs k ad=>by cases h;obtain ⟨v,vs,rfl,I,rfl⟩:=ad;exact I)
theorem amf:ep bO 10 AK:=eP trivial (fun _=>rfl) (fun h=>by rfl) (fun K h F w xs k ad=>by cases h;obtain ⟨v,vs,rfl,I,rfl⟩:=ad;exact I)
theorem amg:ep bO 11 AL:=eP trivial (fun _=>rfl) (fun h=>by rfl) (fun K h F w xs k ad=>by cases h;obtain ⟨v,vs,rfl,I,rfl⟩:=ad;exact I)
theorem amD:ep bO 21 Wx:=eP trivial (fun _=>rfl) (fun h=>by rfl) (fun K h=>by cases h)
theorem amH:ep bO 22 Wz:=eP ⟨by kernel_rfl,trivial⟩ (fun _=>rfl) (fun h=>by rfl) (fun K h=>by cases h)
theorem amI:ep bO 24 WD:=eP ⟨by kernel_rfl,by kernel_rfl,trivial⟩ (fun _=>rfl) (fun h=>by cases h) (fun K h=>by cases h)
theorem ams:ep bO 136 MD:=eP trivial (fun _=>rfl) (fun h=>by cases h) (fun K h=>by cases h)
theorem amm:ep bO 128 MC:=eP trivial (fun _=>rfl) (fun h=>by cases h) (fun K h=>by cases h)
theorem amu:ep bO 157 ME:=eP trivial (fun _=>rfl) (fun h=>by cases h) (fun K h=>by cases h)
theorem amp:ep bO 131 Wr:=eP ⟨by kernel_rfl,by kernel_rfl,trivial⟩ (fun _=>rfl) (fun h=>by cases h) (fun K h=>by cases h)
theorem amr:ep bO 134 Wt:=eP ⟨by kernel_rfl,by kernel_rfl,trivial⟩ (fun _=>rfl) (fun h=>by cases h) (fun K h=>by cases h)
theorem amJ:ep bO 25 WE:=eP ⟨by kernel_rfl,trivial⟩ (fun _=>rfl) (fun h=>by rfl) (fun K h=>by cases h)
theorem amk:ep bO 124 Wo:=eP ⟨by kernel_rfl,trivial⟩ (fun _=>rfl) (fun h=>by rfl) (fun K h=>by cases h)
theorem amK:ep bO 26 WG:=eP ⟨by kernel_rfl,trivial⟩ (fun _=>rfl) (fun h=>by rfl) (fun K h=>by cases h)
theorem ami:ep bO 120 Wm:=eP ⟨by kernel_rfl,trivial⟩ (fun _=>rfl) (fun h=>by rfl) (fun K h=>by cases h)
theorem amL:ep bO 27 WH:=eP ⟨by kernel_rfl,trivial⟩ (fun _=>rfl) (fun h=>by rfl) (fun K h=>by cases h)
theorem amw:ep bO 166 MF:=eP trivial (fun _=>rfl) (fun h=>by cases h) (fun K h=>by cases h)
theorem amj:ep bO 121 Wn:=eP ⟨by kernel_rfl,trivial⟩ (fun _=>rfl) (fun h=>by rfl) (fun K h=>by cases h)
theorem amM:ep bO 28 WI:=eP ⟨by kernel_rfl,trivial⟩ (fun _=>rfl) (fun h=>by rfl) (fun K h=>by cases h)
theorem amO:ep bO 30 WJ:=eP ⟨by kernel_rfl,by kernel_rfl,by kernel_rfl,by kernel_rfl,by kernel_rfl,trivial⟩ (fun _=>rfl) (fun h=>by cases h) (fun K h=>by cases h)
theorem amP:ep bO 31 WK:=eP trivial (fun _=>rfl) (fun h=>by rfl) (fun K h F w xs k ad=>by cases h;obtain ⟨v,vs,rfl,I,rfl⟩:=ad;exact I)
theorem amV:ep bO 69 WM:=eP ⟨by kernel_rfl,by kernel_rfl,by kernel_rfl,by kernel_rfl,by kernel_rfl,trivial⟩ (fun _=>rfl) (fun h=>by cases h) (fun K h=>by cases h)
theorem aml:ep bO 126 Wp:=eP ⟨by kernel_rfl,trivial⟩ (fun _=>rfl) (fun h=>by rfl) (fun K h=>by cases h)
theorem amn:ep bO 129 Wq:=eP ⟨by kernel_rfl,trivial⟩ (fun _=>rfl) (fun h=>by rfl) (fun K h=>by cases h)
theorem amq:ep bO 132 Ws:=eP ⟨by kernel_rfl,trivial⟩ (fun _=>rfl) (fun h=>by rfl) (fun K h=>by cases h)
theorem amy:ep bO 192 Wu:=eP trivial (fun _=>rfl) (fun h=>by rfl) (fun K h F w xs k ad=>by cases h;obtain ⟨v,vs,rfl,I,rfl⟩:=ad;exact I)
theorem amA:ep bO 202 Wv:=eP ⟨by kernel_rfl,trivial⟩ (fun _=>rfl) (fun h=>by rfl) (fun K h=>by cases h)
theorem amB:ep bO 204 Ww:=eP ⟨by kernel_rfl,trivial⟩ (fun _=>rfl) (fun h=>by rfl) (fun K h=>by cases h)
theorem amC:ep bO 219 Wy:=eP trivial (fun _=>rfl) (fun h=>by rfl) (fun K h=>by cases h)
theorem amE:ep bO 220 WA:=eP trivial (fun _=>rfl) (fun h=>by rfl) (fun K h=>by cases h)
theorem amF:ep bO 223 WB:=eP trivial (fun _=>rfl) (fun h=>by rfl) (fun K h=>by cases h)
theorem amG:ep bO 224 WC:=eP trivial (fun _=>rfl) (fun h=>by rfl) (fun K h=>by cases h)
theorem acg:uu bO:=axL ⟨amG,amF,amE,amC,amB,amA,amy,amq,amn,aml,amV,amP,amO,amM,amj,amw,amL,ami,amK,amk,amJ,amr,amp,amu,amm,ams,amI,amH,amD,amg,amf,amZ,amW,amT,amS,amQ,amN,trivial⟩
end Go.Proofs.YteeliipnilghaaaGreat
namespace Go.Proofs.YteeliipnilghaaaGreat
open Go Go.RowKit av J bz
noncomputable def aR:Env:=⟨Tryz.prog,bO,[],false,(List.range 174).drop 2,5,fun l=>l⟩
noncomputable def rP:Env:=⟨Tryz.prog,bO,[],true,(List.range 174).drop 2,5,fun l=>l⟩
noncomputable def h8:dy aR:=⟨[],[]⟩
theorem atV (a5:dn aR) (h:h8.dl):(h8.f 37 ((kH aR.T 3 8).run aR)).dl:=h.Fb a5 rfl rfl (by kernel_rfl) (fun a c=>by kernel_rfl) fun d l=>by kernel_rfl
noncomputable def xa:dy aR:=h8.f 37 ((kH aR.T 3 8).run aR)
theorem atW (a5:dn aR) (h:xa.dl):(xa.f 108 ((kH aR.T 136 40).run aR)).dl:=h.Fb a5 rfl rfl (by kernel_rfl) (fun a c=>by kernel_rfl) fun d l=>by kernel_rfl
noncomputable def oU:dy aR:=xa.f 108 ((kH aR.T 136 40).run aR)
theorem atX (a5:dn aR) (h:oU.dl):(oU.f 109 ((kH aR.T 131 128).run aR)).dl:=h.Fb a5 rfl rfl (by kernel_rfl) (fun a c=>by kernel_rfl) fun d l=>by kernel_rfl
noncomputable def LR:dy aR:=oU.f 109 ((kH aR.T 131 128).run aR)
theorem atY (a5:dn aR) (h:LR.dl):(LR.f 110 ((kH aR.T 128 24).run aR)).dl:=h.Fb a5 rfl rfl (by kernel_rfl) (fun a c=>by kernel_rfl) fun d l=>by kernel_rfl
noncomputable def LS:dy aR:=LR.f 110 ((kH aR.T 128 24).run aR)
theorem atZ (a5:dn aR) (h:LS.dl):(LS.f 111 ((kH aR.T 157 40).run aR)).dl:=h.Fb a5 rfl rfl (by kernel_rfl) (fun a c=>by kernel_rfl) fun d l=>by kernel_rfl
noncomputable def ag3:dy aR:=LS.f 111 ((kH aR.T 157 40).run aR)
end Go.Proofs.YteeliipnilghaaaGreat
namespace Go.Proofs.YteeliipnilghaaaGreat
open Go Go.RowKit av J bz
theorem auA:xb Tryz.prog bO 136 MD:=by
 intro f af F w xs ys d e ad hy o a x y t' b ap pq pr w'
 obtain rfl:=Option.some.inj af
 obtain ⟨_,_,rfl,rfl,_,_,rfl,rfl,_,_,rfl,rfl,rfl⟩:=ad
 obtain ⟨_,_,rfl,rfl,_,_,rfl,rfl,_,_,rfl,rfl,rfl⟩:=hy
 cases b
 · exact ank ap pq pr
 · exact ang ap pq pr
theorem auz:xb Tryz.prog bO 128 MC:=by
 intro f af F w xs ys d e ad hy o a x y t' b ap pq pr w'
 obtain rfl:=Option.some.inj af
 obtain ⟨_,_,rfl,rfl,_,_,rfl,rfl,rfl⟩:=ad
 obtain ⟨_,_,rfl,rfl,_,_,rfl,rfl,rfl⟩:=hy
 cases b
 · exact anm ap pq pr
 · exact ani ap pq pr
theorem auB:xb Tryz.prog bO 157 ME:=by
 intro f af F w xs ys d e ad hy o a x y t' b ap pq pr w'
 obtain rfl:=Option.some.inj af
 obtain ⟨_,_,rfl,rfl,_,_,rfl,rfl,_,_,rfl,rfl,_,_,rfl,rfl,rfl⟩:=ad
 obtain ⟨_,_,rfl,rfl,_,_,rfl,rfl,_,_,rfl,rfl,_,_,rfl,rfl,rfl⟩:=hy
 cases b
 · exact anl ap pq pr
 · exact anh ap pq pr
theorem auC:xb Tryz.prog bO 166 MF:=by
 intro f af F w xs ys d e ad hy o a x y t' b ap pq pr w'
 obtain rfl:=Option.some.inj af
 obtain ⟨_,_,rfl,rfl,_,_,rfl,rfl,rfl⟩:=ad
 obtain ⟨_,_,rfl,rfl,_,_,rfl,rfl,rfl⟩:=hy
 cases b
 · exact ann ap pq pr
 · exact anj ap pq pr
theorem W1:MJ Tryz.prog bO bO.es:=⟨fk rfl,fk rfl,fk rfl,fk rfl,fk rfl,fk rfl,fk rfl,fk rfl,fk rfl,fk rfl,fk rfl,fk rfl,fk rfl,fk rfl,fk rfl,auC,fk rfl,fk rfl,fk rfl,fk rfl,fk rfl,fk rfl,fk rfl,auB,auz,auA,fk rfl,fk rfl,fk rfl,fk rfl,fk rfl,fk rfl,fk rfl,fk rfl,fk rfl,fk rfl,fk rfl,trivial⟩
theorem XU:Jy Tryz.prog aR.cq=true:=by kernel_rfl
theorem Vw (F:Nat->Prop) (w:World) (l:List UInt8) (xs:List Value) (h:dO Ku F w xs l):dO (bO.ty 5) F w xs l:=by
 refine JV (A:=Ku) (B:=bO.ty 5) (fun cs d h=>?_) h
 change eV (fun t=>(fG MO t).ty) F w [.y] cs (d,())
 exact ⟨_,_,h,rfl,rfl⟩
theorem pc:dn aR:=⟨acg,fun f af=>aay (Q3 XU af),by kernel_rfl,fun l=>rfl,Vw,fun t=>MI W1⟩
theorem WY:dn rP:=⟨acg,fun f af=>aay (Q3 XU af),by kernel_rfl,fun l=>rfl,Vw,fun t=>MI W1⟩
end Go.Proofs.YteeliipnilghaaaGreat
namespace J
def fv (df:Int) (EB:Int) (EK:Int):Option (Bool):=
 some ((decide (EB<=df)) && (decide (df<=EK)))
def k8 (df:Int) (EB:Int) (EK:Int):Option (Bool):=
 some ((decide (EB<=df)) && (decide (df<=EK)))
def Iz (aW:Int):Option (Bool):=
 some ((decide (aW= 3)) || (decide (aW= 4)))
def yL (od:List UInt8):Nat->Int->Option (Way (Bool) (Unit))
 | 0,_=>none
 | bJ+ 1,vK=>
   cond (decide (vK <(od.length:Int))) ((idx od vK).bind fun zR=>
   cond (((((decide ((zR.toNat:Int) < 97)) || (decide (122 <(zR.toNat:Int)))) && ((decide ((zR.toNat:Int) < 65)) || (decide (90 <(zR.toNat:Int))))) && ((decide ((zR.toNat:Int) < 48)) || (decide (57 <(zR.toNat:Int))))) && (!decide ((zR.toNat:Int)= 95))) (some (.out false)) (yL od bJ (aE (vK+ 1)))) (some (.go ()))
def mc (F:Nat) (s_:List UInt8):Option (Bool):=
 (bytesOf s_).bind fun od=>
 cd (α:=Unit) (yL od F 0) fun (_:Unit)=>
 some ((!decide (s_= [])) && (decide ((s_.length:Int)<= 20)))
def sK (F:Nat) (aW:Kind):Option (Bool):=
 (Iz aW.Kind).bind fun Ss=>
 cond (Ss) ((mc F aW.al).bind fun Sv=>
 some Sv) (some (((decide (aW.Kind= 1)) || (decide (aW.Kind= 2))) && (decide (aW.al= []))))
def qn (s_:List UInt8):Nat->Int->Option (Way (Bool) (Unit))
 | 0,_=>none
 | bJ+ 1,QI=>
   cond (decide (QI <(s_.length:Int))) ((idx s_ QI).bind fun x6=>
   cond (!(((((decide (97 <=(x6.toNat:Int))) && (decide ((x6.toNat:Int)<= 122))) || ((decide (65 <=(x6.toNat:Int))) && (decide ((x6.toNat:Int)<= 90)))) || ((decide (48 <=(x6.toNat:Int))) && (decide ((x6.toNat:Int)<= 57)))) || (decide ((x6.toNat:Int)= 95)))) (some (.out false)) (qn s_ bJ (aE (QI+ 1)))) (some (.go ()))
def mJ (F:Nat) (s_:List UInt8):Option (Bool):=
 cd (α:=Unit) (qn s_ F 0) fun (_:Unit)=>
 some ((decide (1 <=(s_.length:Int))) && (decide ((s_.length:Int)<= 20)))
def rY (F:Nat) (aW:Kind):Option (Bool):=
 cond ((decide (aW.Kind= 1)) || (decide (aW.Kind= 2))) (some (decide (aW.al= []))) (cond ((decide (aW.Kind= 3)) || (decide (aW.Kind= 4))) ((mJ F aW.al).bind fun tu=>
 some tu) (some false))
end J
namespace J
def vj (F:Nat) (m_:Method):Nat->Int->Option (Way (Int) (Unit))
 | 0,_=>none
 | bJ+ 1,vR=>
   cond (decide (vR <(m_.cr.length:Int))) ((idx m_.cr vR).bind fun afU=>
   (sK F (⟨afU.Kind,afU.al⟩:Kind)).bind fun av8=>
   cond (!av8) (some (.out 7)) (vj F m_ bJ (aE (vR+ 1)))) (some (.go ()))
def yP (F:Nat) (m_:Method):Nat->Int->Option (Way (Int) (Unit))
 | 0,_=>none
 | ez+ 1,zd=>
   cond (decide (zd <(m_.cw.length:Int))) ((idx m_.cw zd).bind fun KU=>
   (mc F KU.al).bind fun Sl=>
   cond (!Sl) (some (.out 1)) ((k8 KU.From 0 200).bind fun oC=>
   cond (!oC) (some (.out 3)) ((k8 KU.To 0 200).bind fun Sm=>
   cond (!Sm) (some (.out 3)) ((k8 KU.hS 0 200).bind fun Sn=>
   cond (!Sn) (some (.out 3)) (yP F m_ ez (aE (zd+ 1))))))) (some (.go ()))
def pA (F:Nat) (m_:Method):Nat->Int->Option (Way (Int) (Unit))
 | 0,_=>none
 | hv+ 1,kA=>
   cond (decide (kA <(m_.cw.length:Int))) ((idx m_.cw kA).bind fun K'=>
   (mc F K'.al).bind fun avz=>
   cond (!avz) (some (.out 1)) ((k8 K'.From 0 200).bind fun avB=>
   cond (!avB) (some (.out 3)) ((k8 K'.To 0 200).bind fun avC=>
   cond (!avC) (some (.out 3)) ((k8 K'.hS 0 200).bind fun avD=>
   cond (!avD) (some (.out 3)) (pA F m_ hv (aE (kA+ 1))))))) (some (.go ()))
def yO (F:Nat) (m_:Method):Option (Int):=
 (mc F m_.Name).bind fun zt=>
 cond (!zt) (some 1) (cond (((decide (4 <(m_.cr.length:Int))) || (decide (200 <(m_.Code.length:Int)))) || (decide (4 <(m_.cw.length:Int)))) (some 2) ((k8 m_.g4 0 10).bind fun iq=>
 cond (!iq) (some 3) ((k8 m_.g2 0 10).bind fun zr=>
 cond (!zr) (some 3) (cd (α:=Unit) (vj F m_ F 0) fun (_:Unit)=>
 cond (!decide ((⟨m_.Returns.Kind,m_.Returns.al⟩:Kind)=(⟨0,[]⟩:Kind))) ((sK F (⟨m_.Returns.Kind,m_.Returns.al⟩:Kind)).bind fun av9=>
 cond (!av9) (some 7) (cd (α:=Unit) (yP F m_ F 0) fun (_:Unit)=>
 some 0)) (cd (α:=Unit) (pA F m_ F 0) fun (_:Unit)=>
 some 0)))))
def yM (F:Nat) (c_:al):Nat->Int->Option (Way (Int) (Unit))
 | 0,_=>none
 | bJ+ 1,kC=>
   cond (decide (kC <(c_.Fields.length:Int))) ((idx c_.Fields kC).bind fun Uo=>
   (mc F Uo.Name).bind fun E'=>
   cond (!E') (some (.out 1)) ((sK F (⟨Uo.Kind.Kind,Uo.Kind.al⟩:Kind)).bind fun E8=>
   cond (!E8) (some (.out 7)) (yM F c_ bJ (aE (kC+ 1))))) (some (.go ()))
def yN (F:Nat) (c_:al):Nat->Int->Option (Way (Int) (Unit))
 | 0,_=>none
 | ez+ 1,zd=>
   cond (decide (zd <(c_.bb.length:Int))) ((idx c_.bb zd).bind fun tK=>
   (yO F (⟨tK.Name,tK.Static,tK.cr,(⟨tK.Returns.Kind,tK.Returns.al⟩:Kind),tK.g4,tK.g2,tK.Code,tK.cw⟩:Method)).bind fun oC=>
   cond (!decide (oC= 0)) (some (.out oC)) (yN F c_ ez (aE (zd+ 1)))) (some (.go ()))
def sJ (F:Nat) (c_:al):Nat->Int->Option (Way (Int) (Unit))
 | 0,_=>none
 | hv+ 1,mm=>
   cond (decide (mm <(c_.Fields.length:Int))) ((idx c_.Fields mm).bind fun TL=>
   (mc F TL.Name).bind fun avr=>
   cond (!avr) (some (.out 1)) ((sK F (⟨TL.Kind.Kind,TL.Kind.al⟩:Kind)).bind fun avs=>
   cond (!avs) (some (.out 7)) (sJ F c_ hv (aE (mm+ 1))))) (some (.go ()))
def pz (F:Nat) (c_:al):Nat->Int->Option (Way (Int) (Unit))
 | 0,_=>none
 | kx+ 1,kB=>
   cond (decide (kB <(c_.bb.length:Int))) ((idx c_.bb kB).bind fun tM=>
   (yO F (⟨tM.Name,tM.Static,tM.cr,(⟨tM.Returns.Kind,tM.Returns.al⟩:Kind),tM.g4,tM.g2,tM.Code,tM.cw⟩:Method)).bind fun abj=>
   cond (!decide (abj= 0)) (some (.out abj)) (pz F c_ kx (aE (kB+ 1)))) (some (.go ()))
def Er (F:Nat) (c_:al):Option (Int):=
 (mc F c_.Name).bind fun zt=>
 cond (!zt) (some 1) (cond (!decide (c_.cO= [])) ((mc F c_.cO).bind fun iq=>
 cond (!iq) (some 1) (cond ((decide (6 <(c_.Fields.length:Int))) || (decide (8 <(c_.bb.length:Int)))) (some 2) (cd (α:=Unit) (yM F c_ F 0) fun (_:Unit)=>
 cd (α:=Unit) (yN F c_ F 0) fun (_:Unit)=>
 some 0))) (cond ((decide (6 <(c_.Fields.length:Int))) || (decide (8 <(c_.bb.length:Int)))) (some 2) (cd (α:=Unit) (sJ F c_ F 0) fun (_:Unit)=>
 cd (α:=Unit) (pz F c_ F 0) fun (_:Unit)=>
 some 0)))
def vi (F:Nat) (a8:List al):Nat->Int->Option (Way (Int) (Unit))
 | 0,_=>none
 | bJ+ 1,vU=>
   cond (decide (vU <(a8.length:Int))) ((idx a8 vU).bind fun Ll=>
   (Er F (⟨Ll.Name,Ll.cO,Ll.Fields,Ll.bb⟩:al)).bind fun abd=>
   cond (!decide (abd= 0)) (some (.out abd)) (vi F a8 bJ (aE (vU+ 1)))) (some (.go ()))
def Ep (F:Nat) (a8:List al):Option (Int):=
 cond (decide (10 <(a8.length:Int))) (some 2) (cd (α:=Unit) (vi F a8 F 0) fun (_:Unit)=>
 some 0)
def xy (F:Nat) (m_:Method):Nat->Int->Option (Way (Int) (Unit))
 | 0,_=>none
 | bJ+ 1,QQ=>
   cond (decide (QQ <(m_.cr.length:Int))) ((idx m_.cr QQ).bind fun aA8=>
   (rY F aA8).bind fun av4=>
   cond (!av4) (some (.out 7)) (xy F m_ bJ (aE (QQ+ 1)))) (some (.go ()))
def xz (F:Nat) (m_:Method):Nat->Int->Option (Way (Int) (Unit))
 | 0,_=>none
 | ez+ 1,QE=>
   cond (decide (QE <(m_.cw.length:Int))) ((idx m_.cw QE).bind fun KT=>
   (mJ F KT.al).bind fun avi=>
   cond (!avi) (some (.out 1)) ((fv KT.From 0 200).bind fun avm=>
   cond (!avm) (some (.out 3)) ((fv KT.To 0 200).bind fun avn=>
   cond (!avn) (some (.out 3)) ((fv KT.hS 0 200).bind fun avo=>
   cond (!avo) (some (.out 3)) (xz F m_ ez (aE (QE+ 1))))))) (some (.go ()))
def xx (F:Nat) (m_:Method):Option (Int):=
 (mJ F m_.Name).bind fun zt=>
 cond (!zt) (some 1) (cond (((decide (4 <(m_.cr.length:Int))) || (decide (200 <(m_.Code.length:Int)))) || (decide (4 <(m_.cw.length:Int)))) (some 2) ((fv m_.g4 0 10).bind fun iq=>
 cond (!iq) (some 3) ((fv m_.g2 0 10).bind fun zr=>
 cond (!zr) (some 3) (cd (α:=Unit) (xy F m_ F 0) fun (_:Unit)=>
 (rY F (⟨m_.Returns.Kind,m_.Returns.al⟩:Kind)).bind fun av7=>
 cond ((!av7) && ((!decide (m_.Returns.Kind= 0)) || (!decide (m_.Returns.al= [])))) (some 7) (cd (α:=Unit) (xz F m_ F 0) fun (_:Unit)=>
 some 0)))))
def Ac (F:Nat) (eW:al):Nat->Int->Option (Way (Int) (Unit))
 | 0,_=>none
 | ez+ 1,Jj=>
   cond (decide (Jj <(eW.Fields.length:Int))) ((idx eW.Fields Jj).bind fun aAI=>
   (mJ F aAI.Name).bind fun avT=>
   cond (!avT) (some (.out 1)) ((idx eW.Fields Jj).bind fun afm=>
   (rY F (⟨afm.Kind.Kind,afm.Kind.al⟩:Kind)).bind fun avU=>
   cond (!avU) (some (.out 7)) (Ac F eW ez (aE (Jj+ 1))))) (some (.go ()))
def Ad (F:Nat) (eW:al):Nat->Int->Option (Way (Int) (Unit))
 | 0,_=>none
 | hv+ 1,QO=>
   cond (decide (QO <(eW.bb.length:Int))) ((idx eW.bb QO).bind fun aAJ=>
   (xx F aAJ).bind fun abm=>
   cond (!decide (abm= 0)) (some (.out abm)) (Ad F eW hv (aE (QO+ 1)))) (some (.go ()))
def ua (F:Nat) (eW:al):Nat->Int->Option (Way (Int) (Unit))
 | 0,_=>none
 | kx+ 1,zh=>
   cond (decide (zh <(eW.Fields.length:Int))) ((idx eW.Fields zh).bind fun aAK=>
   (mJ F aAK.Name).bind fun avV=>
   cond (!avV) (some (.out 1)) ((idx eW.Fields zh).bind fun afn=>
   (rY F (⟨afn.Kind.Kind,afn.Kind.al⟩:Kind)).bind fun avW=>
   cond (!avW) (some (.out 7)) (ua F eW kx (aE (zh+ 1))))) (some (.go ()))
def ub (F:Nat) (eW:al):Nat->Int->Option (Way (Int) (Unit))
 | 0,_=>none
 | qV+ 1,BB=>
   cond (decide (BB <(eW.bb.length:Int))) ((idx eW.bb BB).bind fun aAL=>
   (xx F aAL).bind fun abn=>
   cond (!decide (abn= 0)) (some (.out abn)) (ub F eW qV (aE (BB+ 1)))) (some (.go ()))
def xh (F:Nat) (a8:List al):Nat->Int->Option (Way (Int) (Unit))
 | 0,_=>none
 | bJ+ 1,QL=>
   cond (decide (QL <(a8.length:Int))) (cS (α:=Unit) ((idx a8 QL).bind fun eW=>
   (mJ F eW.Name).bind fun avP=>
   cond (!avP) (some (.out 1)) (cond (!decide (eW.cO= [])) ((mJ F eW.cO).bind fun avQ=>
   cond (!avQ) (some (.out 1)) (cond ((decide (6 <(eW.Fields.length:Int))) || (decide (8 <(eW.bb.length:Int)))) (some (.out 2)) (cS (α:=Unit) (Ac F eW F 0) fun (_:Unit)=>
   cS (α:=Unit) (Ad F eW F 0) fun (_:Unit)=>
   some (.go ())))) (cond ((decide (6 <(eW.Fields.length:Int))) || (decide (8 <(eW.bb.length:Int)))) (some (.out 2)) (cS (α:=Unit) (ua F eW F 0) fun (_:Unit)=>
   cS (α:=Unit) (ub F eW F 0) fun (_:Unit)=>
   some (.go ()))))) fun (_:Unit)=>
   xh F a8 bJ (aE (QL+ 1))) (some (.go ()))
def CR (F:Nat) (a8:List al):Option (Int):=
 cond (decide (10 <(a8.length:Int))) (some 2) (cd (α:=Unit) (xh F a8 F 0) fun (_:Unit)=>
 some 0)
end J
namespace J
def nS (b8:List Kind) (cu:List Kind):Nat->Int->Option (Way (Bool) (Unit))
 | 0,_=>none
 | bJ+ 1,cT=>
   cond (decide (cT <(b8.length:Int))) ((idx b8 cT).bind fun lD=>
   (idx cu cT).bind fun lE=>
   cond (!decide (lD=lE)) (some (.out false)) (nS b8 cu bJ (aE (cT+ 1)))) (some (.go ()))
def r0 (F:Nat) (b8:List Kind) (cu:List Kind):Option (Bool):=
 cond (!decide ((b8.length:Int)=(cu.length:Int))) (some false) (cd (α:=Unit) (nS b8 cu F 0) fun (_:Unit)=>
 some true)
def xN (b8:List Field) (cu:List Field):Nat->Int->Option (Way (Bool) (Unit))
 | 0,_=>none
 | bJ+ 1,cT=>
   cond (decide (cT <(b8.length:Int))) ((idx b8 cT).bind fun lD=>
   (idx cu cT).bind fun lE=>
   cond (!decide (lD=lE)) (some (.out false)) (xN b8 cu bJ (aE (cT+ 1)))) (some (.go ()))
def Al (F:Nat) (b8:List Field) (cu:List Field):Option (Bool):=
 cond (!decide ((b8.length:Int)=(cu.length:Int))) (some false) (cd (α:=Unit) (xN b8 cu F 0) fun (_:Unit)=>
 some true)
def xM (mA:Method) (nC:Method):Nat->Int->Option (Way (Bool) (Unit))
 | 0,_=>none
 | hv+ 1,Jb=>
   cond (decide (Jb <(mA.cw.length:Int))) ((idx mA.cw Jb).bind fun azp=>
   (idx nC.cw Jb).bind fun azq=>
   cond (!decide (azp=azq)) (some (.out false)) (xM mA nC hv (aE (Jb+ 1)))) (some (.go ()))
def xL (F:Nat) (tJ:al) (wE:al):Nat->Int->Option (Way (Bool) (Unit))
 | 0,_=>none
 | ez+ 1,Ja=>
   cond (decide (Ja <(tJ.bb.length:Int))) (cS (α:=Unit) ((idx tJ.bb Ja).bind fun mA=>
   (idx wE.bb Ja).bind fun nC=>
   cond ((!decide (mA.Name=nC.Name)) || (!(mA.Static == nC.Static))) (some (.out false)) ((r0 F mA.cr nC.cr).bind fun au'=>
   cond (!au') (some (.out false)) (cond (((((!decide ((⟨mA.Returns.Kind,mA.Returns.al⟩:Kind)=(⟨nC.Returns.Kind,nC.Returns.al⟩:Kind))) || (!decide (mA.g4=nC.g4))) || (!decide (mA.g2=nC.g2))) || (!decide (mA.Code=nC.Code))) || (!decide ((mA.cw.length:Int)=(nC.cw.length:Int)))) (some (.out false)) (cS (α:=Unit) (xM mA nC F 0) fun (_:Unit)=>
   some (.go ()))))) fun (_:Unit)=>
   xL F tJ wE ez (aE (Ja+ 1))) (some (.go ()))
def xK (F:Nat) (b8:List al) (cu:List al):Nat->Int->Option (Way (Bool) (Unit))
 | 0,_=>none
 | bJ+ 1,I'=>
   cond (decide (I' <(b8.length:Int))) (cS (α:=Unit) ((idx b8 I').bind fun tJ=>
   (idx cu I').bind fun wE=>
   cond ((!decide (tJ.Name=wE.Name)) || (!decide (tJ.cO=wE.cO))) (some (.out false)) ((Al F tJ.Fields wE.Fields).bind fun au8=>
   cond ((!au8) || (!decide ((tJ.bb.length:Int)=(wE.bb.length:Int)))) (some (.out false)) (cS (α:=Unit) (xL F tJ wE F 0) fun (_:Unit)=>
   some (.go ())))) fun (_:Unit)=>
   xK F b8 cu bJ (aE (I'+ 1))) (some (.go ()))
def Ak (F:Nat) (b8:List al) (cu:List al):Option (Bool):=
 cond (!decide ((b8.length:Int)=(cu.length:Int))) (some false) (cd (α:=Unit) (xK F b8 cu F 0) fun (_:Unit)=>
 some true)
def uj (b8:aP) (cu:aP):Nat->Int->Option (Way (Bool) (Unit))
 | 0,_=>none
 | bJ+ 1,tq=>
   cond (decide (tq <(b8.a0.length:Int))) ((idx b8.a0 tq).bind fun ayM=>
   (idx cu.a0 tq).bind fun Tw=>
   cond (!decide (ayM=Tw)) (some (.out false)) (uj b8 cu bJ (aE (tq+ 1)))) (some (.go ()))
def xP (F:Nat) (b8:aP) (cu:aP):Nat->Int->Option (Way (Bool) (Unit))
 | 0,_=>none
 | ez+ 1,Jc=>
   cond (decide (Jc <(b8.Fields.length:Int))) ((idx b8.Fields Jc).bind fun azx=>
   (idx cu.Fields Jc).bind fun azz=>
   (Al F azx azz).bind fun avq=>
   cond (!avq) (some (.out false)) (xP F b8 cu ez (aE (Jc+ 1)))) (some (.go ()))
def xR (b8:aP) (cu:aP) (q8:Int):Nat->Int->Option (Way (Bool) (Unit))
 | 0,_=>none
 | kx+ 1,Jh=>
   (idx b8.Names q8).bind fun azT=>
   cond (decide (Jh <(azT.length:Int))) ((idx b8.Names q8).bind fun azU=>
   (idx azU Jh).bind fun azX=>
   (idx cu.Names q8).bind fun azZ=>
   (idx azZ Jh).bind fun az1=>
   cond (!decide (azX=az1)) (some (.out false)) (xR b8 cu q8 kx (aE (Jh+ 1)))) (some (.go ()))
def xQ (F:Nat) (b8:aP) (cu:aP):Nat->Int->Option (Way (Bool) (Unit))
 | 0,_=>none
 | hv+ 1,q8=>
   cond (decide (q8 <(b8.Names.length:Int))) (cS (α:=Unit) ((idx b8.Names q8).bind fun azO=>
   (idx cu.Names q8).bind fun azP=>
   cond (!decide ((azO.length:Int)=(azP.length:Int))) (some (.out false)) (cS (α:=Unit) (xR b8 cu q8 F 0) fun (_:Unit)=>
   some (.go ()))) fun (_:Unit)=>
   xQ F b8 cu hv (aE (q8+ 1))) (some (.go ()))
def xT (b8:aP) (cu:aP) (rb:Int):Nat->Int->Option (Way (Bool) (Unit))
 | 0,_=>none
 | vn+ 1,Jm=>
   (idx b8.a1 rb).bind fun aA3=>
   cond (decide (Jm <(aA3.length:Int))) ((idx b8.a1 rb).bind fun aA4=>
   (idx aA4 Jm).bind fun aA5=>
   (idx cu.a1 rb).bind fun aA6=>
   (idx aA6 Jm).bind fun aA7=>
   cond (!decide (aA5=aA7)) (some (.out false)) (xT b8 cu rb vn (aE (Jm+ 1)))) (some (.go ()))
def xS (F:Nat) (b8:aP) (cu:aP):Nat->Int->Option (Way (Bool) (Unit))
 | 0,_=>none
 | qV+ 1,rb=>
   cond (decide (rb <(b8.a1.length:Int))) (cS (α:=Unit) ((idx b8.a1 rb).bind fun aA1=>
   (idx cu.a1 rb).bind fun aA2=>
   cond (!decide ((aA1.length:Int)=(aA2.length:Int))) (some (.out false)) (cS (α:=Unit) (xT b8 cu rb F 0) fun (_:Unit)=>
   some (.go ()))) fun (_:Unit)=>
   xS F b8 cu qV (aE (rb+ 1))) (some (.go ()))
def Am (F:Nat) (b8:aP) (cu:aP):Option (Bool):=
 (Ak F b8.a4 cu.a4).bind fun Sp=>
 cond (((((!Sp) || (!decide ((cu.a0.length:Int)=(b8.a0.length:Int)))) || (!decide ((b8.Fields.length:Int)=(cu.Fields.length:Int)))) || (!decide ((b8.Names.length:Int)=(cu.Names.length:Int)))) || (!decide ((b8.a1.length:Int)=(cu.a1.length:Int)))) (some false) (cd (α:=Unit) (uj b8 cu F 0) fun (_:Unit)=>
 cd (α:=Unit) (xP F b8 cu F 0) fun (_:Unit)=>
 cd (α:=Unit) (xQ F b8 cu F 0) fun (_:Unit)=>
 cd (α:=Unit) (xS F b8 cu F 0) fun (_:Unit)=>
 some true)
def xA (a8:List al) (Jo:List UInt8):Nat->Int->Option (Way (Int) (Unit))
 | 0,_=>none
 | bJ+ 1,Jk=>
   cond (decide (Jk <(a8.length:Int))) ((idx a8 Jk).bind fun aA'=>
   cond (decide (aA'.Name=Jo)) (some (.out Jk)) (xA a8 Jo bJ (aE (Jk+ 1)))) (some (.go ()))
def mI (F:Nat) (a8:List al) (Jo:List UInt8):Option (Int):=
 cd (α:=Unit) (xA a8 Jo F 0) fun (_:Unit)=>
 some (-1)
def xX (F:Nat) (a8:List al):Nat->Int->(List Int)->Option (Way (List Int) (List Int))
 | 0,_,_=>none
 | bJ+ 1,QD,P7=>
   cond (decide (0 <=QD)) (cond (decide ((a8.length:Int) <(P7.length:Int))) (some (.out [])) ((bR 8 [QD] P7).bind fun ZD=>
   (idx a8 QD).bind fun adT=>
   (mI F a8 adT.cO).bind fun avj=>
   xX F a8 bJ avj ZD)) (some (.go P7))
def um (F:Nat) (a8:List al) (df:Int):Option (List Int):=
 cd (α:=List Int) (xX F a8 F df []) fun (aro:List Int)=>
 some aro
def ul (F:Nat) (yV:List Kind) (a8:List al):Nat->Int->Option (Way (Bool) (Unit))
 | 0,_=>none
 | bJ+ 1,EO=>
   cond (decide (EO <(yV.length:Int))) ((idx yV EO).bind fun aBo=>
   cond (!decide (aBo.al= [])) ((idx yV EO).bind fun ayT=>
   (mI F a8 ayT.al).bind fun auY=>
   cond (decide (auY < 0)) (some (.out false)) (ul F yV a8 bJ (aE (EO+ 1)))) (ul F yV a8 bJ (aE (EO+ 1)))) (some (.go ()))
def xW (F:Nat) (a8:List al) (yV:List Kind):Option (Bool):=
 cd (α:=Unit) (ul F yV a8 F 0) fun (_:Unit)=>
 some true
def qj (a8:List al) (iu:List Int):Nat->(List Field)->Int->Option (List Field)
 | 0,_,_=>none
 | bJ+ 1,ZE,QJ=>
   cond (decide (QJ <(iu.length:Int))) ((idx iu QJ).bind fun azA=>
   (idx a8 azA).bind fun azD=>
   (bR 40 ZE azD.Fields).bind fun arL=>
   qj a8 iu bJ arL (aE (QJ+ 1))) (some ZE)
def xg (F:Nat) (a8:List al) (df:Int):Option (List Field):=
 (um F a8 df).bind fun iu=>
 Option.bind (α:=List Field) (qj a8 iu F [] 0) fun (arG:List Field)=>
 some arG
def oZ (ky:List (List UInt8)) (oP:Method):Nat->Int->Option (Int)
 | 0,_=>none
 | hv+ 1,ox=>
   cond (decide (ox <(ky.length:Int))) ((idx ky ox).bind fun aAX=>
   cond (!decide (aAX=oP.Name)) (oZ ky oP hv (aE (ox+ 1))) (some ox)) (some ox)
def xV (F:Nat) (a8:List al) (iu:List Int) (vN:Int):Nat->(List Target)->(List (List UInt8))->Int->Option ((List Target) × (List (List UInt8)))
 | 0,_,_,_=>none
 | ez+ 1,Qb,ky,Jl=>
   (idx iu vN).bind fun aAT=>
   (idx a8 aAT).bind fun aAU=>
   cond (decide (Jl <(aAU.bb.length:Int))) (Option.bind (α:=(List Target) × (List (List UInt8))) ((idx iu vN).bind fun aAV=>
   (idx a8 aAV).bind fun aAW=>
   (idx aAW.bb Jl).bind fun oP=>
   Option.bind (α:=Int) (oZ ky oP F 0) fun (QR:Int)=>
   Option.bind (α:=(List Target) × (List (List UInt8))) (cond (decide (QR=(ky.length:Int))) ((bR 16 ky [oP.Name]).bind fun asi=>
   (bR 16 Qb [(⟨0,0⟩:Target)]).bind fun asj=>
   some (asj,asi)) (some (Qb,ky))) fun ((ZL,ash):(List Target) × (List (List UInt8)))=>
   (idx iu vN).bind fun aAY=>
   (idx ZL QR).bind fun aDm=>
   (some (ZL.set (QR).toNat (⟨aAY,Jl⟩:Target))).bind fun asl=>
   some (asl,ash)) fun ((asf,asg):(List Target) × (List (List UInt8)))=>
   xV F a8 iu vN ez asf asg (aE (Jl+ 1))) (some (Qb,ky))
def xU (F:Nat) (a8:List al) (iu:List Int):Nat->(List Target)->(List (List UInt8))->Int->Option ((List Target) × (List (List UInt8)))
 | 0,_,_,_=>none
 | bJ+ 1,ZJ,ZK,vN=>
   cond (decide (vN <(iu.length:Int))) (Option.bind (α:=(List Target) × (List (List UInt8))) (Option.bind (α:=(List Target) × (List (List UInt8))) (xV F a8 iu vN F ZJ ZK 0) fun ((asd,ase):(List Target) × (List (List UInt8)))=>
   some (asd,ase)) fun ((asb,asc):(List Target) × (List (List UInt8)))=>
   xU F a8 iu bJ asb asc (aE (vN+ 1))) (some (ZJ,ZK))
def CV (F:Nat) (a8:List al) (df:Int):Option ((List (List UInt8)) × (List Target)):=
 (um F a8 df).bind fun iu=>
 Option.bind (α:=(List Target) × (List (List UInt8))) (xU F a8 iu F [] [] 0) fun ((ar2,ar3):(List Target) × (List (List UInt8)))=>
 some (ar3,ar2)
end J
namespace J
def rV (F:Nat) (a8:List al):Nat->Int->Option (Way (Int) (Unit))
 | 0,_=>none
 | bJ+ 1,kC=>
   cond (decide (kC <(a8.length:Int))) ((idx a8 kC).bind fun aBj=>
   (mI F a8 aBj.Name).bind fun auV=>
   cond (!decide (auV=kC)) (some (.out 6)) (rV F a8 bJ (aE (kC+ 1)))) (some (.go ()))
def xq (a8:List al):Nat->Int->Option (Way (Int) (Unit))
 | 0,_=>none
 | ez+ 1,Jd=>
   cond (decide (Jd <(a8.length:Int))) ((idx a8 Jd).bind fun azy=>
   (idx a8 Jd).bind fun azC=>
   cond (!((decide (azy.Name= [79,98,106,101,99,116])) == (decide (azC.cO= [])))) (some (.out 4)) (xq a8 ez (aE (Jd+ 1)))) (some (.go ()))
def ug (F:Nat) (a8:List al):Nat->Int->Option (Way (Int) (Unit))
 | 0,_=>none
 | hv+ 1,EN=>
   cond (decide (EN <(a8.length:Int))) ((idx a8 EN).bind fun aAn=>
   cond (!decide (aAn.cO= [])) ((idx a8 EN).bind fun aAx=>
   (mI F a8 aAx.cO).bind fun avL=>
   cond (decide (avL < 0)) (some (.out 5)) (ug F a8 hv (aE (EN+ 1)))) (ug F a8 hv (aE (EN+ 1)))) (some (.go ()))
def xr (F:Nat) (a8:List al):Nat->Int->Option (Way (Int) (Unit))
 | 0,_=>none
 | kx+ 1,QN=>
   cond (decide (QN <(a8.length:Int))) ((um F a8 QN).bind fun avN=>
   cond (decide ((avN.length:Int)= 0)) (some (.out 4)) (xr F a8 kx (aE (QN+ 1)))) (some (.go ()))
def xt (F:Nat) (a8:List al) (ow:Int):Nat->Int->Option (Way (Int) (Unit))
 | 0,_=>none
 | vn+ 1,QF=>
   (idx a8 ow).bind fun azk=>
   cond (decide (QF <(azk.Fields.length:Int))) ((idx a8 ow).bind fun azl=>
   (idx azl.Fields QF).bind fun adG=>
   (xW F a8 [(⟨adG.Kind.Kind,adG.Kind.al⟩:Kind)]).bind fun au9=>
   cond (!au9) (some (.out 5)) (xt F a8 ow vn (aE (QF+ 1)))) (some (.go ()))
def xv (F:Nat) (a8:List al) (wG:Method):Nat->Int->Option (Way (Int) (Unit))
 | 0,_=>none
 | P1+ 1,QH=>
   cond (decide (QH <(wG.cw.length:Int))) ((idx wG.cw QH).bind fun azu=>
   (mI F a8 azu.al).bind fun ave=>
   cond (decide (ave < 0)) (some (.out 5)) (xv F a8 wG P1 (aE (QH+ 1)))) (some (.go ()))
def xu (F:Nat) (a8:List al) (ow:Int):Nat->Int->Option (Way (Int) (Unit))
 | 0,_=>none
 | II+ 1,QG=>
   (idx a8 ow).bind fun azr=>
   cond (decide (QG <(azr.bb.length:Int))) (cS (α:=Unit) ((idx a8 ow).bind fun azs=>
   (idx azs.bb QG).bind fun wG=>
   (xW F a8 wG.cr).bind fun avc=>
   cond (!avc) (some (.out 5)) ((xW F a8 [(⟨wG.Returns.Kind,wG.Returns.al⟩:Kind)]).bind fun avd=>
   cond (!avd) (some (.out 5)) (cS (α:=Unit) (xv F a8 wG F 0) fun (_:Unit)=>
   some (.go ())))) fun (_:Unit)=>
   xu F a8 ow II (aE (QG+ 1))) (some (.go ()))
def uh (F:Nat) (a8:List al):Nat->Int->Option (Way (Int) (Unit))
 | 0,_=>none
 | qV+ 1,ow=>
   cond (decide (ow <(a8.length:Int))) (cS (α:=Unit) (cS (α:=Unit) (xt F a8 ow F 0) fun (_:Unit)=>
   cS (α:=Unit) (xu F a8 ow F 0) fun (_:Unit)=>
   some (.go ())) fun (_:Unit)=>
   uh F a8 qV (aE (ow+ 1))) (some (.go ()))
def xm (tt:List Field) (zg:Int):Nat->Int->Option (Way (Int) (Unit))
 | 0,_=>none
 | aq'+ 1,QM=>
   cond (decide (QM <zg)) ((idx tt QM).bind fun aAa=>
   (idx tt zg).bind fun aAb=>
   cond (decide (aAa.Name=aAb.Name)) (some (.out 6)) (xm tt zg aq' (aE (QM+ 1)))) (some (.go ()))
def xl (F:Nat) (tt:List Field):Nat->Int->Option (Way (Int) (Unit))
 | 0,_=>none
 | aq_+ 1,zg=>
   cond (decide (zg <(tt.length:Int))) (cS (α:=Unit) (cS (α:=Unit) (xm tt zg F 0) fun (_:Unit)=>
   some (.go ())) fun (_:Unit)=>
   xl F tt aq_ (aE (zg+ 1))) (some (.go ()))
def qm (hQ:al) (im:Int):Nat->Int->Option (Way (Int) (Unit))
 | 0,_=>none
 | arb+ 1,q_=>
   cond (decide (q_ <im)) ((idx hQ.bb q_).bind fun aAr=>
   (idx hQ.bb im).bind fun aAs=>
   cond (decide (aAr.Name=aAs.Name)) (some (.out 6)) (qm hQ im arb (aE (q_+ 1)))) (some (.go ()))
def ql (F:Nat) (hQ:al):Nat->Int->Option (Way (Int) (Unit))
 | 0,_=>none
 | ara+ 1,im=>
   cond (decide (im <(hQ.bb.length:Int))) (cS (α:=Unit) (cS (α:=Unit) (qm hQ im F 0) fun (_:Unit)=>
   some (.go ())) fun (_:Unit)=>
   ql F hQ ara (aE (im+ 1))) (some (.go ()))
def xw (F:Nat) (a8:List al):Nat->Int->Option (Way (Int) (Unit))
 | 0,_=>none
 | IJ+ 1,Jf=>
   cond (decide (Jf <(a8.length:Int))) (cS (α:=Unit) ((xg F a8 Jf).bind fun tt=>
   cS (α:=Unit) (xl F tt F 0) fun (_:Unit)=>
   (idx a8 Jf).bind fun hQ=>
   cS (α:=Unit) (ql F hQ F 0) fun (_:Unit)=>
   some (.go ())) fun (_:Unit)=>
   xw F a8 IJ (aE (Jf+ 1))) (some (.go ()))
def uf (F:Nat) (a8:List al) (lj:Int) (nl:List Int) (pP:Int) (zk:Int):Nat->Int->Option (Way (Int) (Unit))
 | 0,_=>none
 | Zv+ 1,Jn=>
   (idx nl pP).bind fun aBd=>
   (idx a8 aBd).bind fun aBe=>
   cond (decide (Jn <(aBe.bb.length:Int))) ((idx a8 lj).bind fun aBf=>
   (idx aBf.bb zk).bind fun Gm=>
   (idx nl pP).bind fun aBg=>
   (idx a8 aBg).bind fun aBh=>
   (idx aBh.bb Jn).bind fun Gn=>
   cond (decide (Gm.Name=Gn.Name)) (cond (Gm.Static || Gn.Static) (some (.out 4)) ((r0 F Gm.cr Gn.cr).bind fun av_=>
   cond (!av_) (some (.out 4)) (cond (!decide ((⟨Gm.Returns.Kind,Gm.Returns.al⟩:Kind)=(⟨Gn.Returns.Kind,Gn.Returns.al⟩:Kind))) (some (.out 4)) (uf F a8 lj nl pP zk Zv (aE (Jn+ 1)))))) (uf F a8 lj nl pP zk Zv (aE (Jn+ 1)))) (some (.go ()))
def xp (F:Nat) (a8:List al) (lj:Int) (nl:List Int) (pP:Int):Nat->Int->Option (Way (Int) (Unit))
 | 0,_=>none
 | arf+ 1,zk=>
   (idx a8 lj).bind fun aBc=>
   cond (decide (zk <(aBc.bb.length:Int))) (cS (α:=Unit) (cS (α:=Unit) (uf F a8 lj nl pP zk F 0) fun (_:Unit)=>
   some (.go ())) fun (_:Unit)=>
   xp F a8 lj nl pP arf (aE (zk+ 1))) (some (.go ()))
def xo (F:Nat) (a8:List al) (lj:Int) (nl:List Int):Nat->Int->Option (Way (Int) (Unit))
 | 0,_=>none
 | ard+ 1,pP=>
   cond (decide (pP <(aE ((nl.length:Int) - 1)))) (cS (α:=Unit) (cS (α:=Unit) (xp F a8 lj nl pP F 0) fun (_:Unit)=>
   some (.go ())) fun (_:Unit)=>
   xo F a8 lj nl ard (aE (pP+ 1))) (some (.go ()))
def xn (F:Nat) (a8:List al):Nat->Int->Option (Way (Int) (Unit))
 | 0,_=>none
 | arc+ 1,lj=>
   cond (decide (lj <(a8.length:Int))) (cS (α:=Unit) ((um F a8 lj).bind fun nl=>
   cS (α:=Unit) (xo F a8 lj nl F 0) fun (_:Unit)=>
   some (.go ())) fun (_:Unit)=>
   xn F a8 arc (aE (lj+ 1))) (some (.go ()))
def CS (F:Nat) (a8:List al):Option (Int):=
 (CR F a8).bind fun iu=>
 cond (!decide (iu= 0)) (some iu) (cd (α:=Unit) (rV F a8 F 0) fun (_:Unit)=>
 (mI F a8 [79,98,106,101,99,116]).bind fun auW=>
 cond (decide (auW < 0)) (some 5) ((mI F a8 [69,114,114,111,114]).bind fun auZ=>
 cond (decide (auZ < 0)) (some 5) (cd (α:=Unit) (xq a8 F 0) fun (_:Unit)=>
 cd (α:=Unit) (ug F a8 F 0) fun (_:Unit)=>
 cd (α:=Unit) (xr F a8 F 0) fun (_:Unit)=>
 (mI F a8 [69,114,114,111,114]).bind fun abk=>
 (xg F a8 abk).bind fun abl=>
 (idx a8 abk).bind fun aAD=>
 cond ((!decide (aAD.cO= [79,98,106,101,99,116])) || (decide ((abl.length:Int)= 0))) (some 4) ((idx abl 0).bind fun aAG=>
 cond (!decide (aAG.Kind.Kind= 1)) (some 4) (cd (α:=Unit) (uh F a8 F 0) fun (_:Unit)=>
 cd (α:=Unit) (xw F a8 F 0) fun (_:Unit)=>
 cd (α:=Unit) (xn F a8 F 0) fun (_:Unit)=>
 some 0)))))
def oY (F:Nat) (a8:List al):Nat->(List (List Target))->(List (List (List UInt8)))->(List (List Field))->(List Int)->Int->Option (Way (aP × Int) ((List (List Target)) × (List (List (List UInt8))) × (List (List Field)) × (List Int)))
 | 0,_,_,_,_,_=>none
 | bJ+ 1,yW,yX,yY,yZ,q7=>
   cond (decide (q7 <(a8.length:Int))) ((xg F a8 q7).bind fun abe=>
   (CV F a8 q7).bind fun Si=>
   cond ((decide (12 <(abe.length:Int))) || (decide (16 <(Si.1.length:Int)))) (some (.out ((⟨[],[],[],[],[]⟩:aP),2))) ((idx a8 q7).bind fun azo=>
   (mI F a8 azo.cO).bind fun avb=>
   (bR 8 yZ [avb]).bind fun arC=>
   (bR 24 yY [abe]).bind fun arD=>
   (bR 24 yX [Si.1]).bind fun arE=>
   (bR 24 yW [Si.2]).bind fun arF=>
   oY F a8 bJ arF arE arD arC (aE (q7+ 1)))) (some (.go (yW,yX,yY,yZ)))
def CT (F:Nat) (a8:List al):Option (aP × Int):=
 (CS F a8).bind fun tu=>
 cond (!decide (tu= 0)) (some ((⟨[],[],[],[],[]⟩:aP),tu)) (cd (α:=(List (List Target)) × (List (List (List UInt8))) × (List (List Field)) × (List Int)) (oY F a8 F [] [] [] [] 0) fun ((arx,ary,arz,arA):(List (List Target)) × (List (List (List UInt8))) × (List (List Field)) × (List Int))=>
 some ((⟨a8,arA,arz,ary,arx⟩:aP),0))
end J
namespace J
def na (aM:bj):Nat->(List ((List UInt8) × Int))->Int->Option (Way (Int × bj) (List ((List UInt8) × Int)))
 | 0,_,_=>none
 | bJ+ 1,nc,pO=>
   cond (decide (pO <(aM.l.length:Int))) ((idx aM.l pO).bind fun agi=>
   cond ((du nc agi.Name).isSome) (some (.out (6,(⟨aM.l,nc,aM.dh⟩:bj)))) (na aM bJ (hA nc agi.Name pO) (aE (pO+ 1)))) (some (.go nc))
def Bq (F:Nat) (aM:bj):Option (Int × bj):=
 cd (α:=List ((List UInt8) × Int)) (na aM F aM.bY 0) fun (I4:List ((List UInt8) × Int))=>
 cond ((!((du I4 [79,98,106,101,99,116]).isSome)) || (!((du I4 [69,114,114,111,114]).isSome))) (some (5,(⟨aM.l,I4,aM.dh⟩:bj))) (some (0,(⟨aM.l,I4,aM.dh⟩:bj)))
def s9 (aM:bj):Nat->Int->Option (Way (Int × bj) (Unit))
 | 0,_=>none
 | bJ+ 1,vT=>
   cond (decide (vT <(aM.l.length:Int))) ((idx aM.l vT).bind fun agh=>
   cond (!((decide (agh.Name= [79,98,106,101,99,116])) == (decide (agh.cO= [])))) (some (.out (4,(⟨aM.l,aM.bY,aM.dh⟩:bj)))) (s9 aM bJ (aE (vT+ 1)))) (some (.go ()))
def ld (aM:bj):Nat->(List Int)->Int->Option (Way (Int × bj) (List Int))
 | 0,_,_=>none
 | ez+ 1,qY,q9=>
   cond (decide (q9 <(aM.l.length:Int))) (cS (α:=List Int) ((idx aM.l q9).bind fun T1=>
   cS (α:=Int) (cS (α:=Int) (cond (decide (T1.cO= [])) (some (.go (-1))) (cond (!((du aM.bY T1.cO).isSome)) (some (.out (5,(⟨aM.l,aM.bY,qY⟩:bj)))) (some (.go ((du aM.bY T1.cO).getD 0))))) fun (atf:Int)=>
   some (.go atf)) fun (QP:Int)=>
   (bR 8 qY [QP]).bind fun Qa=>
   some (.go Qa)) fun (P':List Int)=>
   ld aM ez P' (aE (q9+ 1))) (some (.go qY))
def q1 (aM:bj) (hL:List Int):Nat->Int->Int->Option (Int)
 | 0,_,_=>none
 | kx+ 1,tj,tk=>
   cond (decide (tk <(aM.l.length:Int))) ((idx hL tj).bind fun TG=>
   cond (decide (TG < 0)) (some TG) (q1 aM hL kx TG (aE (tk+ 1)))) (some tj)
def pD (F:Nat) (aM:bj) (hL:List Int):Nat->Int->Option (Way (Int × bj) (Unit))
 | 0,_=>none
 | hv+ 1,q6=>
   cond (decide (q6 <(aM.l.length:Int))) (cS (α:=Unit) (Option.bind (α:=Int) (Option.bind (α:=Int) (q1 aM hL F q6 0) fun (atc:Int)=>
   some atc) fun (atb:Int)=>
   cond (decide (0 <=atb)) (some (.out (4,(⟨aM.l,aM.bY,hL⟩:bj)))) (some (.go ()))) fun (_:Unit)=>
   pD F aM hL hv (aE (q6+ 1))) (some (.go ()))
def IX (F:Nat) (aM:bj):Option (Int × bj):=
 cd (α:=Unit) (s9 aM F 0) fun (_:Unit)=>
 cd (α:=List Int) (ld aM F aM.dh 0) fun (hL:List Int)=>
 cd (α:=Unit) (pD F aM hL F 0) fun (_:Unit)=>
 some (0,(⟨aM.l,aM.bY,hL⟩:bj))
def pF (aM:bj):Nat->(List Int)->Int->Option (List Int)
 | 0,_,_=>none
 | bJ+ 1,oc,lg=>
   cond (decide (0 <=lg)) ((bR 8 oc [lg]).bind fun Ex=>
   (idx aM.dh lg).bind fun nB=>
   pF aM bJ Ex nB) (some oc)
def pE (F:Nat) (aM:bj) (df:Int):Option (List Int):=
 Option.bind (α:=List Int) (pF aM F [] df) fun (sS:List Int)=>
 some sS
def Fv (_:List Int):Option Unit:=some ()
def vu (aM:bj):List Int->(List Field)->Option (List Field)
 | [],jZ=>some jZ
 | wF::J3,jZ=>
   (idx aM.l wF).bind fun wZ=>
   (bR 40 jZ wZ.Fields).bind fun IU=>
   vu aM J3 IU
def q2 (F:Nat) (aM:bj) (df:Int):Option (List Field):=
 (pE F (⟨aM.l,aM.bY,aM.dh⟩:bj) df).bind fun tv=>
 (Fv tv).bind fun Sh=>
 Option.bind (α:=List Field) (vu aM tv.reverse []) fun (jZ:List Field)=>
 some jZ
def IY (F:Nat) (aM:bj):Option (Int):=
 (q2 F (⟨aM.l,aM.bY,aM.dh⟩:bj) ((du aM.bY [69,114,114,111,114]).getD 0)).bind fun gd=>
 (idx aM.l ((du aM.bY [69,114,114,111,114]).getD 0)).bind fun aza=>
 cond ((!decide (aza.cO= [79,98,106,101,99,116])) || (decide ((gd.length:Int)= 0))) (some 4) ((idx gd 0).bind fun azB=>
 cond (!decide (azB.Kind.Kind= 1)) (some 4) (some 0))
def y9 (aW:Kind) (eO:List (List UInt8)):Option (List (List UInt8)):=
 cond (!decide (aW.al= [])) ((bR 16 eO [aW.al]).bind fun asr=>
 some asr) (some eO)
def td (gi:al):Nat->(List (List UInt8))->Int->Option (List (List UInt8))
 | 0,_,_=>none
 | ez+ 1,y4,vO=>
   cond (decide (vO <(gi.Fields.length:Int))) ((idx gi.Fields vO).bind fun afo=>
   (y9 (⟨afo.Kind.Kind,afo.Kind.al⟩:Kind) y4).bind fun avX=>
   td gi ez avX (aE (vO+ 1))) (some y4)
def tf (fR:Method):Nat->(List (List UInt8))->Int->Option (List (List UInt8))
 | 0,_,_=>none
 | kx+ 1,y5,vP=>
   cond (decide (vP <(fR.cr.length:Int))) ((idx fR.cr vP).bind fun afp=>
   (y9 (⟨afp.Kind,afp.al⟩:Kind) y5).bind fun av0=>
   tf fR kx av0 (aE (vP+ 1))) (some y5)
def pJ (fR:Method):Nat->(List (List UInt8))->Int->Option (List (List UInt8))
 | 0,_,_=>none
 | qV+ 1,sX,rc=>
   cond (decide (rc <(fR.cw.length:Int))) ((idx fR.cw rc).bind fun aAR=>
   (bR 16 sX [aAR.al]).bind fun ar'=>
   pJ fR qV ar' (aE (rc+ 1))) (some sX)
def pI (F:Nat) (gi:al):Nat->(List (List UInt8))->Int->Option (List (List UInt8))
 | 0,_,_=>none
 | hv+ 1,sW,ra=>
   cond (decide (ra <(gi.bb.length:Int))) (Option.bind (α:=List (List UInt8)) ((idx gi.bb ra).bind fun fR=>
   Option.bind (α:=List (List UInt8)) (tf fR F sW 0) fun (ar9:List (List UInt8))=>
   (y9 (⟨fR.Returns.Kind,fR.Returns.al⟩:Kind) ar9).bind fun av1=>
   Option.bind (α:=List (List UInt8)) (pJ fR F av1 0) fun (ar_:List (List UInt8))=>
   some ar_) fun (ar8:List (List UInt8))=>
   pI F gi hv ar8 (aE (ra+ 1))) (some sW)
def tc (F:Nat) (aM:bj):Nat->(List (List UInt8))->Int->Option (List (List UInt8))
 | 0,_,_=>none
 | bJ+ 1,y3,vM=>
   cond (decide (vM <(aM.l.length:Int))) (Option.bind (α:=List (List UInt8)) ((idx aM.l vM).bind fun gi=>
   Option.bind (α:=List (List UInt8)) (td gi F y3 0) fun (ar6:List (List UInt8))=>
   Option.bind (α:=List (List UInt8)) (pI F gi F ar6 0) fun (ar7:List (List UInt8))=>
   some ar7) fun (ar5:List (List UInt8))=>
   tc F aM bJ ar5 (aE (vM+ 1))) (some y3)
def vB (aM:bj) (oh:List (List UInt8)):Nat->Int->Option (Way (Int) (Unit))
 | 0,_=>none
 | vn+ 1,vQ=>
   cond (decide (vQ <(oh.length:Int))) ((idx oh vQ).bind fun aAS=>
   cond (!((du aM.bY aAS).isSome)) (some (.out 5)) (vB aM oh vn (aE (vQ+ 1)))) (some (.go ()))
def EE (F:Nat) (aM:bj):Option (Int):=
 Option.bind (α:=List (List UInt8)) (tc F aM F [] 0) fun (oh:List (List UInt8))=>
 cd (α:=Unit) (vB aM oh F 0) fun (_:Unit)=>
 some 0
def vC (a8:List (List UInt8)):Nat->(List ((List UInt8) × Bool))->Int->Option (List ((List UInt8) × Bool))
 | 0,_,_=>none
 | bJ+ 1,y_,vJ=>
   cond (decide (vJ <(a8.length:Int))) ((idx a8 vJ).bind fun aAF=>
   vC a8 bJ (hA y_ aAF true) (aE (vJ+ 1))) (some y_)
def Bs (F:Nat) (a8:List (List UInt8)):Option (Bool):=
 Option.bind (α:=List ((List UInt8) × Bool)) (vC a8 F [] 0) fun (asP:List ((List UInt8) × Bool))=>
 some (decide ((asP.length:Int) <(a8.length:Int)))
def ta (nj:List Field):Nat->(List (List UInt8))->Int->Option (List (List UInt8))
 | 0,_,_=>none
 | ez+ 1,y2,vL=>
   cond (decide (vL <(nj.length:Int))) ((idx nj vL).bind fun aAC=>
   (bR 16 y2 [aAC.Name]).bind fun arZ=>
   ta nj ez arZ (aE (vL+ 1))) (some y2)
def pH (lC:al):Nat->(List (List UInt8))->Int->Option (List (List UInt8))
 | 0,_,_=>none
 | hv+ 1,sV,q'=>
   cond (decide (q' <(lC.bb.length:Int))) ((idx lC.bb q').bind fun aAH=>
   (bR 16 sV [aAH.Name]).bind fun ar1=>
   pH lC hv ar1 (aE (q'+ 1))) (some sV)
def vy (F:Nat) (aM:bj):Nat->Int->Option (Way (Int) (Unit))
 | 0,_=>none
 | bJ+ 1,tm=>
   cond (decide (tm <(aM.l.length:Int))) (cS (α:=Unit) ((idx aM.l tm).bind fun lC=>
   (q2 F (⟨aM.l,aM.bY,aM.dh⟩:bj) tm).bind fun nj=>
   Option.bind (α:=List (List UInt8)) (ta nj F [] 0) fun (arY:List (List UInt8))=>
   Option.bind (α:=List (List UInt8)) (pH lC F [] 0) fun (ar0:List (List UInt8))=>
   (Bs F arY).bind fun avR=>
   cond (avR) (some (.out 6)) ((Bs F ar0).bind fun avS=>
   cond (avS) (some (.out 6)) (some (.go ())))) fun (_:Unit)=>
   vy F aM bJ (aE (tm+ 1))) (some (.go ()))
def ED (F:Nat) (aM:bj):Option (Int):=
 cd (α:=Unit) (vy F aM F 0) fun (_:Unit)=>
 some 0
def zy (bL:List Kind) (b_:List Kind):Nat->Int->Option (Way (Bool) (Unit))
 | 0,_=>none
 | bJ+ 1,cT=>
   cond (decide (cT <(bL.length:Int))) ((idx bL cT).bind fun lD=>
   (idx b_ cT).bind fun lE=>
   cond (!decide (lD=lE)) (some (.out false)) (zy bL b_ bJ (aE (cT+ 1)))) (some (.go ()))
def FB (F:Nat) (bL:List Kind) (b_:List Kind):Option (Bool):=
 cond (!decide ((bL.length:Int)=(b_.length:Int))) (some false) (cd (α:=Unit) (zy bL b_ F 0) fun (_:Unit)=>
 some true)
def IW (F:Nat) (b8:Method) (cu:Method):Option (Bool):=
 cond ((!b8.Static) && (!cu.Static)) ((FB F b8.cr cu.cr).bind fun hb=>
 cond (hb) (some (decide ((⟨b8.Returns.Kind,b8.Returns.al⟩:Kind)=(⟨cu.Returns.Kind,cu.Returns.al⟩:Kind)))) (some false)) (some false)
def pG (F:Nat) (iF:Method) (kN:al):Nat->Int->Option (Way (Int) (Unit))
 | 0,_=>none
 | kx+ 1,pM=>
   cond (decide (pM <(kN.bb.length:Int))) ((idx kN.bb pM).bind fun rC=>
   cond (decide (iF.Name=rC.Name)) ((IW F (⟨iF.Name,iF.Static,iF.cr,(⟨iF.Returns.Kind,iF.Returns.al⟩:Kind),iF.g4,iF.g2,iF.Code,iF.cw⟩:Method) (⟨rC.Name,rC.Static,rC.cr,(⟨rC.Returns.Kind,rC.Returns.al⟩:Kind),rC.g4,rC.g2,rC.Code,rC.cw⟩:Method)).bind fun avp=>
   cond (!avp) (some (.out 4)) (pG F iF kN kx (aE (pM+ 1)))) (pG F iF kN kx (aE (pM+ 1)))) (some (.go ()))
def vx (F:Nat) (aM:bj) (hP:al) (tL:Int):Nat->Int->Option (Way (Int) (Unit))
 | 0,_=>none
 | hv+ 1,vH=>
   cond (decide (vH <(hP.bb.length:Int))) (cS (α:=Unit) ((idx hP.bb vH).bind fun iF=>
   (idx aM.l tL).bind fun kN=>
   cS (α:=Unit) (pG F iF kN F 0) fun (_:Unit)=>
   some (.go ())) fun (_:Unit)=>
   vx F aM hP tL hv (aE (vH+ 1))) (some (.go ()))
def vw (F:Nat) (aM:bj) (hP:al) (og:List Int):Nat->Int->Option (Way (Int) (Unit))
 | 0,_=>none
 | ez+ 1,vG=>
   cond (decide (vG <(og.length:Int))) (cS (α:=Unit) ((idx og vG).bind fun tL=>
   cS (α:=Unit) (vx F aM hP tL F 0) fun (_:Unit)=>
   some (.go ())) fun (_:Unit)=>
   vw F aM hP og ez (aE (vG+ 1))) (some (.go ()))
def vv (F:Nat) (aM:bj):Nat->Int->Option (Way (Int) (Unit))
 | 0,_=>none
 | bJ+ 1,ti=>
   cond (decide (ti <(aM.l.length:Int))) (cS (α:=Unit) ((idx aM.l ti).bind fun hP=>
   (pE F (⟨aM.l,aM.bY,aM.dh⟩:bj) ti).bind fun So=>
   (cut So 1 (So.length:Int)).bind fun og=>
   cS (α:=Unit) (vw F aM hP og F 0) fun (_:Unit)=>
   some (.go ())) fun (_:Unit)=>
   vv F aM bJ (aE (ti+ 1))) (some (.go ()))
def EC (F:Nat) (aM:bj):Option (Int):=
 cd (α:=Unit) (vv F aM F 0) fun (_:Unit)=>
 some 0
end J
namespace J
def S1 (s_:List Field):Option (List Field):=
 (bR 40 ([]:List Field) s_).bind fun sU=>
 some sU
def S4 (s_:List Method):Option (List Method):=
 (bR 128 ([]:List Method) s_).bind fun sU=>
 some sU
def S3 (s_:List Kind):Option (List Kind):=
 (bR 24 ([]:List Kind) s_).bind fun sU=>
 some sU
def S2 (s_:List Handler):Option (List Handler):=
 (bR 40 ([]:List Handler) s_).bind fun sU=>
 some sU
def q3:Nat->(List Method)->Int->Int->Option (List Method)
 | 0,_,_,_=>none
 | ez+ 1,IQ,aac,zi=>
   cond (decide (zi <aac)) ((idx IQ zi).bind fun afV=>
   (S3 afV.cr).bind fun av5=>
   (S2 afV.cw).bind fun av6=>
   (idx IQ zi).bind fun wX=>
   (some (IQ.set (zi).toNat (⟨wX.Name,wX.Static,av5,(⟨wX.Returns.Kind,wX.Returns.al⟩:Kind),wX.g4,wX.g2,wX.Code,wX.cw⟩:Method))).bind fun ZM=>
   (idx ZM zi).bind fun wY=>
   (some (ZM.set (zi).toNat (⟨wY.Name,wY.Static,wY.cr,(⟨wY.Returns.Kind,wY.Returns.al⟩:Kind),wY.g4,wY.g2,wY.Code,av6⟩:Method))).bind fun aso=>
   q3 ez aso aac (aE (zi+ 1))) (some IQ)
def pK (F:Nat) (a8:List al):Nat->(List al)->Int->Option (List al)
 | 0,_,_=>none
 | bJ+ 1,y6,vS=>
   cond (decide (vS <(a8.length:Int))) (Option.bind (α:=List al) ((idx a8 vS).bind fun Lj=>
   (S1 Lj.Fields).bind fun av3=>
   (S4 Lj.bb).bind fun abp=>
   Option.bind (α:=List Method) (q3 F abp (abp.length:Int) 0) fun (asn:List Method)=>
   (bR 80 y6 [(⟨Lj.Name,Lj.cO,av3,asn⟩:al)]).bind fun asp=>
   some asp) fun (asm:List al)=>
   pK F a8 bJ asm (aE (vS+ 1))) (some y6)
def EF (F:Nat) (a8:List al):Option (List al):=
 Option.bind (α:=List al) (pK F a8 F [] 0) fun (ar4:List al)=>
 some ar4
def wu (s_:List (List UInt8)) (aH:List UInt8):Nat->Int->Option (Way (Int) (Unit))
 | 0,_=>none
 | bJ+ 1,g_=>
   cond (decide (g_ <(s_.length:Int))) ((idx s_ g_).bind fun zQ=>
   cond (decide (aH=zQ)) (some (.out g_)) (wu s_ aH bJ (aE (g_+ 1)))) (some (.go ()))
def FF (F:Nat) (s_:List (List UInt8)) (aH:List UInt8):Option (Int):=
 cd (α:=Unit) (wu s_ aH F 0) fun (_:Unit)=>
 some (-1)
def vA (F:Nat) (eG:Int) (fs:al):Nat->(List (List UInt8))->(List Target)->Int->Option ((List (List UInt8)) × (List Target))
 | 0,_,_,_=>none
 | ez+ 1,jq,lb,eE=>
   cond (decide (eE <(fs.bb.length:Int))) (Option.bind (α:=(List (List UInt8)) × (List Target)) ((idx fs.bb eE).bind fun ft=>
   (FF F jq ft.Name).bind fun zu=>
   cond (decide (0 <=zu)) ((idx lb zu).bind fun Un=>
   (some (lb.set (zu).toNat (⟨eG,eE⟩:Target))).bind fun Qf=>
   some (jq,Qf)) ((bR 16 jq [ft.Name]).bind fun IR=>
   (bR 16 lb [(⟨eG,eE⟩:Target)]).bind fun qZ=>
   some (IR,qZ))) fun ((s4,s5):(List (List UInt8)) × (List Target))=>
   vA F eG fs ez s4 s5 (aE (eE+ 1))) (some (jq,lb))
def vz (F:Nat) (aM:bj):List Int->(List (List UInt8))->(List Target)->Option ((List (List UInt8)) × (List Target))
 | [],j0,j1=>some (j0,j1)
 | eG::J4,j0,j1=>
   Option.bind (α:=(List (List UInt8)) × (List Target)) ((idx aM.l eG).bind fun fs=>
   Option.bind (α:=(List (List UInt8)) × (List Target)) (vA F eG fs F j0 j1 0) fun ((s0,s3):(List (List UInt8)) × (List Target))=>
   some (s0,s3)) fun ((sY,sZ):(List (List UInt8)) × (List Target))=>
   vz F aM J4 sY sZ
def y8 (F:Nat) (aM:bj) (df:Int):Option ((List (List UInt8)) × (List Target)):=
 (pE F (⟨aM.l,aM.bY,aM.dh⟩:bj) df).bind fun iq=>
 (Fv iq).bind fun hd=>
 Option.bind (α:=(List (List UInt8)) × (List Target)) (vz F aM iq.reverse [] []) fun ((j0,j1):(List (List UInt8)) × (List Target))=>
 some (j0,j1)
def mh (F:Nat) (gd:List al) (hd:Int × bj) (hf:Int × bj):Nat->(List (List Target))->(List (List (List UInt8)))->(List (List Field))->Int->Option (Way (aP × Int) ((List (List Target)) × (List (List (List UInt8))) × (List (List Field))))
 | 0,_,_,_,_=>none
 | bJ+ 1,sP,sQ,sR,ov=>
   cond (decide (ov <(gd.length:Int))) ((y8 F (⟨gd,hd.2.bY,hf.2.dh⟩:bj) ov).bind fun Sg=>
   (q2 F (⟨gd,hd.2.bY,hf.2.dh⟩:bj) ov).bind fun auX=>
   (bR 24 sR [auX]).bind fun ZB=>
   (bR 24 sQ [Sg.1]).bind fun arp=>
   (bR 24 sP [Sg.2]).bind fun arq=>
   (idx ZB ov).bind fun ay7=>
   cond ((decide (12 <(ay7.length:Int))) || (decide (16 <(Sg.1.length:Int)))) (some (.out ((⟨[],[],[],[],[]⟩:aP),2))) (mh F gd hd hf bJ arq arp ZB (aE (ov+ 1)))) (some (.go (sP,sQ,sR)))
def y7 (F:Nat) (a8:List al):Option (aP × Int):=
 (Ep F a8).bind fun tu=>
 cond (!decide (tu= 0)) (some ((⟨[],[],[],[],[]⟩:aP),tu)) ((EF F a8).bind fun gd=>
 (Bq F (⟨gd,[],[]⟩:bj)).bind fun hd=>
 cond (!decide (hd.1 = 0)) (some ((⟨[],[],[],[],[]⟩:aP),hd.1)) ((IX F (⟨gd,hd.2.bY,[]⟩:bj)).bind fun hf=>
 cond (!decide (hf.1 = 0)) (some ((⟨[],[],[],[],[]⟩:aP),hf.1)) ((IY F (⟨gd,hd.2.bY,hf.2.dh⟩:bj)).bind fun BS=>
 cond (!decide (BS= 0)) (some ((⟨[],[],[],[],[]⟩:aP),BS)) ((EE F (⟨gd,hd.2.bY,hf.2.dh⟩:bj)).bind fun mn=>
 cond (!decide (mn= 0)) (some ((⟨[],[],[],[],[]⟩:aP),mn)) ((ED F (⟨gd,hd.2.bY,hf.2.dh⟩:bj)).bind fun ed=>
 cond (!decide (ed= 0)) (some ((⟨[],[],[],[],[]⟩:aP),ed)) ((EC F (⟨gd,hd.2.bY,hf.2.dh⟩:bj)).bind fun abg=>
 cond (!decide (abg= 0)) (some ((⟨[],[],[],[],[]⟩:aP),abg)) (cd (α:=(List (List Target)) × (List (List (List UInt8))) × (List (List Field))) (mh F gd hd hf F [] [] [] 0) fun ((Qg,Qh,Qi):(List (List Target)) × (List (List (List UInt8))) × (List (List Field)))=>
 some ((⟨gd,hf.2.dh,Qi,Qh,Qg⟩:aP),0))))))))
def wk (bL:List Int) (b_:List Int):Nat->Int->Option (Way (Bool) (Unit))
 | 0,_=>none
 | bJ+ 1,cT=>
   cond (decide (cT <(bL.length:Int))) ((idx bL cT).bind fun lD=>
   (idx b_ cT).bind fun lE=>
   cond (!decide (lD=lE)) (some (.out false)) (wk bL b_ bJ (aE (cT+ 1)))) (some (.go ()))
def FD (F:Nat) (bL:List Int) (b_:List Int):Option (Bool):=
 cond (!decide ((bL.length:Int)=(b_.length:Int))) (some false) (cd (α:=Unit) (wk bL b_ F 0) fun (_:Unit)=>
 some true)
def wi (bL:List Field) (b_:List Field):Nat->Int->Option (Way (Bool) (Unit))
 | 0,_=>none
 | bJ+ 1,cT=>
   cond (decide (cT <(bL.length:Int))) ((idx bL cT).bind fun lD=>
   (idx b_ cT).bind fun lE=>
   cond (!decide (lD=lE)) (some (.out false)) (wi bL b_ bJ (aE (cT+ 1)))) (some (.go ()))
def FA (F:Nat) (bL:List Field) (b_:List Field):Option (Bool):=
 cond (!decide ((bL.length:Int)=(b_.length:Int))) (some false) (cd (α:=Unit) (wi bL b_ F 0) fun (_:Unit)=>
 some true)
def wc (F:Nat) (bL:List (List Field)) (b_:List (List Field)):Nat->Int->Option (Way (Bool) (Unit))
 | 0,_=>none
 | bJ+ 1,fZ=>
   cond (decide (fZ <(bL.length:Int))) ((idx bL fZ).bind fun F1=>
   (idx b_ fZ).bind fun zI=>
   (FA F F1 zI).bind fun E9=>
   cond (!E9) (some (.out false)) (wc F bL b_ bJ (aE (fZ+ 1)))) (some (.go ()))
def Fx (F:Nat) (bL:List (List Field)) (b_:List (List Field)):Option (Bool):=
 cond (!decide ((bL.length:Int)=(b_.length:Int))) (some false) (cd (α:=Unit) (wc F bL b_ F 0) fun (_:Unit)=>
 some true)
def wl (bL:List (List UInt8)) (b_:List (List UInt8)):Nat->Int->Option (Way (Bool) (Unit))
 | 0,_=>none
 | bJ+ 1,cT=>
   cond (decide (cT <(bL.length:Int))) ((idx bL cT).bind fun lD=>
   (idx b_ cT).bind fun lE=>
   cond (!decide (lD=lE)) (some (.out false)) (wl bL b_ bJ (aE (cT+ 1)))) (some (.go ()))
def FE (F:Nat) (bL:List (List UInt8)) (b_:List (List UInt8)):Option (Bool):=
 cond (!decide ((bL.length:Int)=(b_.length:Int))) (some false) (cd (α:=Unit) (wl bL b_ F 0) fun (_:Unit)=>
 some true)
def wh (F:Nat) (bL:List (List (List UInt8))) (b_:List (List (List UInt8))):Nat->Int->Option (Way (Bool) (Unit))
 | 0,_=>none
 | bJ+ 1,fZ=>
   cond (decide (fZ <(bL.length:Int))) ((idx bL fZ).bind fun F1=>
   (idx b_ fZ).bind fun zI=>
   (FE F F1 zI).bind fun E9=>
   cond (!E9) (some (.out false)) (wh F bL b_ bJ (aE (fZ+ 1)))) (some (.go ()))
def Fz (F:Nat) (bL:List (List (List UInt8))) (b_:List (List (List UInt8))):Option (Bool):=
 cond (!decide ((bL.length:Int)=(b_.length:Int))) (some false) (cd (α:=Unit) (wh F bL b_ F 0) fun (_:Unit)=>
 some true)
def wj (bL:List Target) (b_:List Target):Nat->Int->Option (Way (Bool) (Unit))
 | 0,_=>none
 | bJ+ 1,cT=>
   cond (decide (cT <(bL.length:Int))) ((idx bL cT).bind fun lD=>
   (idx b_ cT).bind fun lE=>
   cond (!decide (lD=lE)) (some (.out false)) (wj bL b_ bJ (aE (cT+ 1)))) (some (.go ()))
def FC (F:Nat) (bL:List Target) (b_:List Target):Option (Bool):=
 cond (!decide ((bL.length:Int)=(b_.length:Int))) (some false) (cd (α:=Unit) (wj bL b_ F 0) fun (_:Unit)=>
 some true)
def wg (F:Nat) (bL:List (List Target)) (b_:List (List Target)):Nat->Int->Option (Way (Bool) (Unit))
 | 0,_=>none
 | bJ+ 1,fZ=>
   cond (decide (fZ <(bL.length:Int))) ((idx bL fZ).bind fun F1=>
   (idx b_ fZ).bind fun zI=>
   (FC F F1 zI).bind fun E9=>
   cond (!E9) (some (.out false)) (wg F bL b_ bJ (aE (fZ+ 1)))) (some (.go ()))
def Fy (F:Nat) (bL:List (List Target)) (b_:List (List Target)):Option (Bool):=
 cond (!decide ((bL.length:Int)=(b_.length:Int))) (some false) (cd (α:=Unit) (wg F bL b_ F 0) fun (_:Unit)=>
 some true)
def Br (F:Nat) (b8:aP) (cu:aP):Option (Bool):=
 (FD F b8.a0 cu.a0).bind fun Sp=>
 cond (Sp) ((Fx F b8.Fields cu.Fields).bind fun Sq=>
 cond (Sq) ((Fz F b8.Names cu.Names).bind fun Sr=>
 cond (Sr) ((Fy F b8.a1 cu.a1).bind fun avA=>
 some avA) (some false)) (some false)) (some false)
def m' (F:Nat) (aW:aP):Option (Int):=
 (y7 F aW.a4).bind fun hb=>
 cond (!decide (hb.2 = 0)) (some 4) ((Br F (⟨aW.a4,aW.a0,aW.Fields,aW.Names,aW.a1⟩:aP) (⟨hb.1.a4,hb.1.a0,hb.1.Fields,hb.1.Names,hb.1.a1⟩:aP)).bind fun avy=>
 cond (!avy) (some 4) (some 0))
def U9:Option (List al):=
 some [(⟨[79,98,106,101,99,116],[],[],[(⟨[109,97,105,110],true,[],(⟨0,[]⟩:Kind),2,0,[1,0,7,31,27],[]⟩:Method)]⟩:al),(⟨[69,114,114,111,114],[79,98,106,101,99,116],[(⟨[99,111,100,101],(⟨1,[]⟩:Kind)⟩:Field)],[]⟩:al)]
end J
namespace J
def rW (F:Nat) (aW:aP):Option (Int):=
 (CT F aW.a4).bind fun hb=>
 cond (!decide (hb.2 = 0)) (some 4) ((Am F (⟨aW.a4,aW.a0,aW.Fields,aW.Names,aW.a1⟩:aP) (⟨hb.1.a4,hb.1.a0,hb.1.Fields,hb.1.Names,hb.1.a1⟩:aP)).bind fun ed=>
 cond (!ed) (some 4) (some 0))
end J
namespace J
def mW (df:Int) (EB:Int) (EK:Int):Option (Bool):=
 some ((decide (EB<=df)) && (decide (df<=EK)))
def Yz (LJ:Int) (zo:Int):Option (aV × Int):=
 (mW LJ 3 2000).bind fun Ss=>
 cond (!Ss) (some ((⟨[],0,0,0,0,[],0⟩:aV),3)) ((mW zo 3 2000).bind fun Sv=>
 cond (!Sv) (some ((⟨[],0,0,0,0,[],0⟩:aV),3)) ((zb (0 :Int) 8 (aE ((aE (1 +LJ))+zo))).bind fun asq=>
 some ((⟨asq,LJ,zo,1,aE (LJ+ 1),[],1⟩:aV),0)))
def st (s_:cb) (gf:Int):Option (Bool):=
 cond ((decide (gf= 1)) || (decide (gf= 2))) (some true) ((mW gf 3 (aE ((aE (3 +(s_.K.a4.length:Int))) - 1))).bind fun zr=>
 some zr)
def su (s_:cb) (gf:Int) (df:Int):Option (Bool):=
 (mW df 0 500).bind fun hb=>
 cond (hb) (cond (decide (gf < 3)) (some true) ((idx s_.K.Fields (aE (gf - 3))).bind fun TF=>
 some (decide (df=(TF.length:Int))))) (some false)
def uY (s_:cb) (gf:Int) (df:Int):Option (Bool):=
 cond (decide (gf= 2)) (some true) (cond (decide (3 <=gf)) ((idx s_.K.Fields (aE (gf - 3))).bind fun TB=>
 (idx TB df).bind fun TI=>
 some (!decide (TI.Kind.Kind= 1))) (some false))
def OV (s_:cb) (gf:Int) (pC:Int):Option (Int):=
 (st (⟨(⟨s_.K.a4,s_.K.a0,s_.K.Fields,s_.K.Names,s_.K.a1⟩:aP)⟩:cb) gf).bind fun hb=>
 cond (!hb) (some 7) ((su (⟨(⟨s_.K.a4,s_.K.a0,s_.K.Fields,s_.K.Names,s_.K.a1⟩:aP)⟩:cb) gf pC).bind fun hd=>
 cond (!hd) (some 3) (some 0))
def A9 (aG:aV):Option (Int):=
 (mW aG.ar 3 2000).bind fun zt=>
 cond (!zt) (some 3) ((mW aG.aO 3 2000).bind fun tv=>
 cond (!tv) (some 3) (cond (!decide ((aG.Words.length:Int)=(aE ((aE (1 +aG.ar))+aG.aO)))) (some 1) ((mW aG.aZ 1 (aE (aG.ar+ 1))).bind fun zr=>
 cond (!zr) (some 3) ((mW aG.aU (aE (aG.ar+ 1)) (aE ((aE (aG.ar+aG.aO))+ 1))).bind fun au_=>
 cond ((!au_) || (decide (aG.Next < 1))) (some 3) (some 0)))))
def A5 (aH:bc) (at_:Int):Option (Bool):=
 some ((decide (0 <at_)) && (decide (at_<=aH.H.ar)))
def A4 (aH:bc) (at_:Int):Option (Bool):=
 some ((du aH.dM at_).getD false)
def mV (jd:Int) (aH:bc):Nat->(List Int)->(List (Int × Bool))->Int->Option (Way ((List Int) × Bool × bc) ((List Int) × (List (Int × Bool))))
 | 0,_,_,_=>none
 | bJ+ 1,sT,om,lh=>
   cond (decide (lh <jd)) (cond (decide (jd <(aE (lh+ 3)))) (some (.out ([],false,(⟨(⟨aH.H.Words,aH.H.ar,aH.H.aO,aH.H.aZ,aH.H.aU,aH.H.aS,aH.H.Next⟩:aV),(⟨(⟨aH.S.K.a4,aH.S.K.a0,aH.S.K.Fields,aH.S.K.Names,aH.S.K.a1⟩:aP)⟩:cb),aH.ar,aH.aO,om⟩:bc)))) ((idx aH.H.Words lh).bind fun aea=>
   (idx aH.H.Words (aE (lh+ 1))).bind fun TM=>
   (st (⟨(⟨aH.S.K.a4,aH.S.K.a0,aH.S.K.Fields,aH.S.K.Names,aH.S.K.a1⟩:aP)⟩:cb) aea).bind fun avw=>
   cond (!avw) (some (.out ([],false,(⟨(⟨aH.H.Words,aH.H.ar,aH.H.aO,aH.H.aZ,aH.H.aU,aH.H.aS,aH.H.Next⟩:aV),(⟨(⟨aH.S.K.a4,aH.S.K.a0,aH.S.K.Fields,aH.S.K.Names,aH.S.K.a1⟩:aP)⟩:cb),aH.ar,aH.aO,om⟩:bc)))) ((su (⟨(⟨aH.S.K.a4,aH.S.K.a0,aH.S.K.Fields,aH.S.K.Names,aH.S.K.a1⟩:aP)⟩:cb) aea TM).bind fun avx=>
   cond ((!avx) || (decide (jd <(aE ((aE (lh+ 3))+TM))))) (some (.out ([],false,(⟨(⟨aH.H.Words,aH.H.ar,aH.H.aO,aH.H.aZ,aH.H.aU,aH.H.aS,aH.H.Next⟩:aV),(⟨(⟨aH.S.K.a4,aH.S.K.a0,aH.S.K.Fields,aH.S.K.Names,aH.S.K.a1⟩:aP)⟩:cb),aH.ar,aH.aO,om⟩:bc)))) ((bR 8 sT [lh]).bind fun arP=>
   mV jd aH bJ arP (hA om lh true) (aE (lh+(aE (3 +TM)))))))) (some (.go (sT,om)))
def k4 (F:Nat) (aH:bc) (from_:Int) (jd:Int):Option ((List Int) × Bool × bc):=
 cd (α:=(List Int) × (List (Int × Bool))) (mV jd aH F [] aH.dM from_) fun ((arK,asO):(List Int) × (List (Int × Bool)))=>
 some (arK,true,(⟨(⟨aH.H.Words,aH.H.ar,aH.H.aO,aH.H.aZ,aH.H.aU,aH.H.aS,aH.H.Next⟩:aV),(⟨(⟨aH.S.K.a4,aH.S.K.a0,aH.S.K.Fields,aH.S.K.Names,aH.S.K.a1⟩:aP)⟩:cb),aH.ar,aH.aO,asO⟩:bc))
def sv (at_:Int) (aH:bc) (KV:Int):Nat->(List Int)->Int->Option (List Int)
 | 0,_,_=>none
 | bJ+ 1,P8,Jg=>
   cond (decide (Jg <KV)) (Option.bind (α:=List Int) ((idx aH.H.Words at_).bind fun aAj=>
   (uY (⟨(⟨aH.S.K.a4,aH.S.K.a0,aH.S.K.Fields,aH.S.K.Names,aH.S.K.a1⟩:aP)⟩:cb) aAj Jg).bind fun avK=>
   cond (avK) ((bR 8 P8 [aE ((aE (at_+ 3))+Jg)]).bind fun arV=>
   some arV) (some P8)) fun (arT:List Int)=>
   sv at_ aH KV bJ arT (aE (Jg+ 1))) (some P8)
def n7 (F:Nat) (aH:bc) (at_:Int):Option (List Int):=
 (idx aH.H.Words (aE (at_+ 1))).bind fun KV=>
 Option.bind (α:=List Int) (sv at_ aH KV F [] 0) fun (arO:List Int)=>
 some arO
def Kj (df:Int):Option (List Int):=
 Option.bind (α:=Unit) (cond (decide (df < 0)) ((none:Option (Unit))) (some ())) fun (_:Unit)=>
 cond (decide (0 <(aE (df - 0)))) ((C0 (0 :Int) 8 (aE (df - 0))).bind fun aCZ=>
 some ([]:List Int)) (some [])
def tz (gZ:List (List Int)):Nat->Int->Int->Option (Int)
 | 0,_,_=>none
 | bJ+ 1,vE,vF=>
   cond (decide (vF <(gZ.length:Int))) (Option.bind (α:=Int) ((idx gZ vF).bind fun ady=>
   cond (decide ((aE (vE+(ady.length:Int))) < 0)) ((none:Option (Int))) (some (aE (vE+(ady.length:Int))))) fun (as8:Int)=>
   tz gZ bJ as8 (aE (vF+ 1))) (some vE)
def tA (gZ:List (List Int)):Nat->(List Int)->Int->Option (List Int)
 | 0,_,_=>none
 | ez+ 1,y0,vI=>
   cond (decide (vI <(gZ.length:Int))) ((idx gZ vI).bind fun azF=>
   (bR 8 y0 azF).bind fun arM=>
   tA gZ ez arM (aE (vI+ 1))) (some y0)
def B8 (F:Nat) (gZ:List (List Int)):Option (List Int):=
 Option.bind (α:=Int) (tz gZ F 0 0) fun (atg:Int)=>
 (Kj atg).bind fun au7=>
 Option.bind (α:=List Int) (tA gZ F au7 0) fun (arJ:List Int)=>
 some arJ
def uZ (F:Nat) (aH:bc):Option (List Int):=
 (B8 F [aH.ar,aH.aO]).bind fun gY=>
 some gY
def Hh (aM:Int):Option (Bool):=
 some (!decide (aM=aM))
def Hg (aM:Int) (UD:Int):Option (Bool):=
 (Hh aM).bind fun avk=>
 cond (avk) ((Hh UD).bind fun tu=>
 some ((!tu) || (decide (aM <UD)))) (some (decide (aM <UD)))
def Kn (aM:Int):Option (Bool):=
 some (!decide (aM=aM))
def ru (p3:Int) (aM:List Int):Nat->Int->Int->Option (Int)
 | 0,_,_=>none
 | bJ+ 1,pQ,rf=>
   cond (decide (pQ <rf)) (Option.bind (α:=Int × Int) ((idx aM (aE (tx (Cj (aE (pQ+rf))) 1))).bind fun Tz=>
   (Hg Tz p3).bind fun au3=>
   cond (au3) (some (aE ((aE (tx (Cj (aE (pQ+rf))) 1))+ 1),rf)) (some (pQ,aE (tx (Cj (aE (pQ+rf))) 1)))) fun ((as6,as7):Int × Int)=>
   ru p3 aM bJ as6 as7) (some pQ)
def Fw (F:Nat) (aM:List Int) (p3:Int):Option (Int × Bool):=
 Option.bind (α:=Int) (ru p3 aM F 0 (aM.length:Int)) fun (kC:Int)=>
 cond (decide (kC <(aM.length:Int))) ((idx aM kC).bind fun azh=>
 cond (decide (azh=p3)) (some (kC,true)) ((idx aM kC).bind fun azi=>
 (Kn azi).bind fun au5=>
 cond (au5) ((Kn p3).bind fun au6=>
 some (kC,au6)) (some (kC,false)))) (some (kC,false))
end J
namespace J
def sw (aH:bc) (gY:List Int):Nat->(List (Int × Bool))->Int->Option (Way (Int) (List (Int × Bool)))
 | 0,_,_=>none
 | bJ+ 1,y',vW=>
   cond (decide (vW <(gY.length:Int))) ((idx gY vW).bind fun Tw=>
   (idx aH.H.Words (aE (Tw+ 2))).bind fun Tx=>
   cond ((decide (Tx < 1)) || (decide (aH.H.Next<=Tx))) (some (.out 3)) (sw aH gY bJ (hA y' Tx true) (aE (vW+ 1)))) (some (.go y'))
def A6 (F:Nat) (aH:bc):Option (Int):=
 (uZ F (⟨(⟨aH.H.Words,aH.H.ar,aH.H.aO,aH.H.aZ,aH.H.aU,aH.H.aS,aH.H.Next⟩:aV),(⟨(⟨aH.S.K.a4,aH.S.K.a0,aH.S.K.Fields,aH.S.K.Names,aH.S.K.a1⟩:aP)⟩:cb),aH.ar,aH.aO,aH.dM⟩:bc)).bind fun gY=>
 cd (α:=List (Int × Bool)) (sw aH gY F [] 0) fun (nc:List (Int × Bool))=>
 cond (decide ((nc.length:Int) <(aH.dM.length:Int))) (some 6) (some 0)
def OW (df:Int):Option (Bool):=
 some (!decide (df= 0))
def wo (s_:List Int):Nat->Int->Option (Way (Int) (Unit))
 | 0,_=>none
 | bJ+ 1,tp=>
   cond (decide (tp <(s_.length:Int))) ((idx s_ tp).bind fun aAN=>
   (OW aAN).bind fun av2=>
   cond (av2) (some (.out tp)) (wo s_ bJ (aE (tp+ 1)))) (some (.go ()))
def Kl (F:Nat) (s_:List Int):Option (Int):=
 cd (α:=Unit) (wo s_ F 0) fun (_:Unit)=>
 some (-1)
def Kh (F:Nat) (s_:List Int):Option (Bool):=
 (Kl F s_).bind fun iu=>
 some (decide (0 <=iu))
def sy (aH:bc) (ni:List Int):Nat->Int->Option (Way (Int) (Unit))
 | 0,_=>none
 | ez+ 1,th=>
   cond (decide (th <(ni.length:Int))) ((idx ni th).bind fun azb=>
   (idx aH.H.Words azb).bind fun adk=>
   cond (!decide (adk= 0)) (cond (!((du aH.dM adk).getD false)) (some (.out 5)) (sy aH ni ez (aE (th+ 1)))) (sy aH ni ez (aE (th+ 1)))) (some (.go ()))
def u0 (F:Nat) (aH:bc) (oD:List Int):Nat->Int->Option (Way (Int) (Unit))
 | 0,_=>none
 | bJ+ 1,vV=>
   cond (decide (vV <(oD.length:Int))) (cS (α:=Unit) ((idx oD vV).bind fun ay'=>
   (n7 F (⟨(⟨aH.H.Words,aH.H.ar,aH.H.aO,aH.H.aZ,aH.H.aU,aH.H.aS,aH.H.Next⟩:aV),(⟨(⟨aH.S.K.a4,aH.S.K.a0,aH.S.K.Fields,aH.S.K.Names,aH.S.K.a1⟩:aP)⟩:cb),aH.ar,aH.aO,aH.dM⟩:bc) ay').bind fun ni=>
   cS (α:=Unit) (sy aH ni F 0) fun (_:Unit)=>
   some (.go ())) fun (_:Unit)=>
   u0 F aH oD bJ (aE (vV+ 1))) (some (.go ()))
def A8 (F:Nat) (aH:bc):Option (Int):=
 (uZ F (⟨(⟨aH.H.Words,aH.H.ar,aH.H.aO,aH.H.aZ,aH.H.aU,aH.H.aS,aH.H.Next⟩:aV),(⟨(⟨aH.S.K.a4,aH.S.K.a0,aH.S.K.Fields,aH.S.K.Names,aH.S.K.a1⟩:aP)⟩:cb),aH.ar,aH.aO,aH.dM⟩:bc)).bind fun oD=>
 cd (α:=Unit) (u0 F aH oD F 0) fun (_:Unit)=>
 (cut aH.H.Words 0 1).bind fun arr=>
 (cut aH.H.Words aH.H.aZ (aE (aH.H.ar+ 1))).bind fun ars=>
 (cut aH.H.Words aH.H.aU (aH.H.Words.length:Int)).bind fun art=>
 (B8 F [arr,ars,art]).bind fun au1=>
 (Kh F au1).bind fun au2=>
 cond (au2) (some 1) (some 0)
def H8 (KB:Int) (eO:bc):Option (Bool):=
 (idx eO.H.Words KB).bind fun azw=>
 (A5 (⟨(⟨eO.H.Words,eO.H.ar,eO.H.aO,eO.H.aZ,eO.H.aU,eO.H.aS,eO.H.Next⟩:aV),(⟨(⟨eO.S.K.a4,eO.S.K.a0,eO.S.K.Fields,eO.S.K.Names,eO.S.K.a1⟩:aP)⟩:cb),eO.ar,eO.aO,eO.dM⟩:bc) azw).bind fun Sr=>
 some Sr
def wm (s_:List Int) (cl:bc):Nat->Int->Option (Way (Int) (Unit))
 | 0,_=>none
 | bJ+ 1,jr=>
   cond (decide (jr <(s_.length:Int))) ((idx s_ jr).bind fun Uh=>
   (H8 Uh (⟨(⟨cl.H.Words,cl.H.ar,cl.H.aO,cl.H.aZ,cl.H.aU,cl.H.aS,cl.H.Next⟩:aV),(⟨(⟨cl.S.K.a4,cl.S.K.a0,cl.S.K.Fields,cl.S.K.Names,cl.S.K.a1⟩:aP)⟩:cb),cl.ar,cl.aO,cl.dM⟩:bc)).bind fun Sx=>
   cond (Sx) (some (.out jr)) (wm s_ cl bJ (aE (jr+ 1)))) (some (.go ()))
def Kk (F:Nat) (s_:List Int) (cl:bc):Option (Int):=
 cd (α:=Unit) (wm s_ cl F 0) fun (_:Unit)=>
 some (-1)
def Kg (F:Nat) (s_:List Int) (cl:bc):Option (Bool):=
 (Kk F s_ (⟨(⟨cl.H.Words,cl.H.ar,cl.H.aO,cl.H.aZ,cl.H.aU,cl.H.aS,cl.H.Next⟩:aV),(⟨(⟨cl.S.K.a4,cl.S.K.a0,cl.S.K.Fields,cl.S.K.Names,cl.S.K.a1⟩:aP)⟩:cb),cl.ar,cl.aO,cl.dM⟩:bc)).bind fun E_=>
 some (decide (0 <=E_))
def qO (F:Nat) (aH:bc):Nat->Int->Option (Way (Int) (Unit))
 | 0,_=>none
 | bJ+ 1,pL=>
   cond (decide (pL <(aH.H.aS.length:Int))) ((idx aH.H.aS pL).bind fun nB=>
   cond (decide (0 <pL)) ((idx aH.H.aS (aE (pL - 1))).bind fun azn=>
   cond (decide (nB<=azn)) (some (.out 4)) (cond (!((du aH.dM nB).getD false)) (some (.out 4)) ((A5 (⟨(⟨aH.H.Words,aH.H.ar,aH.H.aO,aH.H.aZ,aH.H.aU,aH.H.aS,aH.H.Next⟩:aV),(⟨(⟨aH.S.K.a4,aH.S.K.a0,aH.S.K.Fields,aH.S.K.Names,aH.S.K.a1⟩:aP)⟩:cb),aH.ar,aH.aO,aH.dM⟩:bc) nB).bind fun Sj=>
   cond (Sj) (some (.out 4)) ((n7 F (⟨(⟨aH.H.Words,aH.H.ar,aH.H.aO,aH.H.aZ,aH.H.aU,aH.H.aS,aH.H.Next⟩:aV),(⟨(⟨aH.S.K.a4,aH.S.K.a0,aH.S.K.Fields,aH.S.K.Names,aH.S.K.a1⟩:aP)⟩:cb),aH.ar,aH.aO,aH.dM⟩:bc) nB).bind fun Sk=>
   cond (decide ((Sk.length:Int)= 0)) (some (.out 4)) (qO F aH bJ (aE (pL+ 1))))))) (cond (!((du aH.dM nB).getD false)) (some (.out 4)) ((A5 (⟨(⟨aH.H.Words,aH.H.ar,aH.H.aO,aH.H.aZ,aH.H.aU,aH.H.aS,aH.H.Next⟩:aV),(⟨(⟨aH.S.K.a4,aH.S.K.a0,aH.S.K.Fields,aH.S.K.Names,aH.S.K.a1⟩:aP)⟩:cb),aH.ar,aH.aO,aH.dM⟩:bc) nB).bind fun avg=>
   cond (avg) (some (.out 4)) ((n7 F (⟨(⟨aH.H.Words,aH.H.ar,aH.H.aO,aH.H.aZ,aH.H.aU,aH.H.aS,aH.H.Next⟩:aV),(⟨(⟨aH.S.K.a4,aH.S.K.a0,aH.S.K.Fields,aH.S.K.Names,aH.S.K.a1⟩:aP)⟩:cb),aH.ar,aH.aO,aH.dM⟩:bc) nB).bind fun avh=>
   cond (decide ((avh.length:Int)= 0)) (some (.out 4)) (qO F aH bJ (aE (pL+ 1))))))) (some (.go ()))
def sx (F:Nat) (aH:bc):Nat->Int->Option (Way (Int) (Unit))
 | 0,_=>none
 | ez+ 1,tl=>
   cond (decide (tl <(aH.aO.length:Int))) ((idx aH.aO tl).bind fun ad'=>
   (Fw F aH.H.aS ad').bind fun avt=>
   cond (!avt.2) ((n7 F (⟨(⟨aH.H.Words,aH.H.ar,aH.H.aO,aH.H.aZ,aH.H.aU,aH.H.aS,aH.H.Next⟩:aV),(⟨(⟨aH.S.K.a4,aH.S.K.a0,aH.S.K.Fields,aH.S.K.Names,aH.S.K.a1⟩:aP)⟩:cb),aH.ar,aH.aO,aH.dM⟩:bc) ad').bind fun avu=>
   (Kg F avu (⟨(⟨aH.H.Words,aH.H.ar,aH.H.aO,aH.H.aZ,aH.H.aU,aH.H.aS,aH.H.Next⟩:aV),(⟨(⟨aH.S.K.a4,aH.S.K.a0,aH.S.K.Fields,aH.S.K.Names,aH.S.K.a1⟩:aP)⟩:cb),aH.ar,aH.aO,aH.dM⟩:bc)).bind fun avv=>
   cond (avv) (some (.out 4)) (sx F aH ez (aE (tl+ 1)))) (sx F aH ez (aE (tl+ 1)))) (some (.go ()))
def A7 (F:Nat) (aH:bc):Option (Int):=
 cd (α:=Unit) (qO F aH F 0) fun (_:Unit)=>
 cd (α:=Unit) (sx F aH F 0) fun (_:Unit)=>
 some 0
end J
namespace J
def qP (F:Nat) (aG:aV) (aW:aP):Option ((Option bc) × Int):=
 (A9 (⟨aG.Words,aG.ar,aG.aO,aG.aZ,aG.aU,aG.aS,aG.Next⟩:aV)).bind fun kG=>
 cond (!decide (kG= 0)) (some ((none:Option bc),kG)) ((k4 F (⟨(⟨aG.Words,aG.ar,aG.aO,aG.aZ,aG.aU,aG.aS,aG.Next⟩:aV),(⟨(⟨aW.a4,aW.a0,aW.Fields,aW.Names,aW.a1⟩:aP)⟩:cb),[],[],[]⟩:bc) 1 aG.aZ).bind fun gY=>
 (k4 F (⟨(⟨aG.Words,aG.ar,aG.aO,aG.aZ,aG.aU,aG.aS,aG.Next⟩:aV),(⟨(⟨aW.a4,aW.a0,aW.Fields,aW.Names,aW.a1⟩:aP)⟩:cb),[],[],gY.2.2.dM⟩:bc) (aE (aG.ar+ 1)) aG.aU).bind fun mn=>
 cond ((!gY.2.1) || (!mn.2.1)) (some ((none:Option bc),1)) ((A6 F (⟨(⟨aG.Words,aG.ar,aG.aO,aG.aZ,aG.aU,aG.aS,aG.Next⟩:aV),(⟨(⟨aW.a4,aW.a0,aW.Fields,aW.Names,aW.a1⟩:aP)⟩:cb),gY.1,mn.1,mn.2.2.dM⟩:bc)).bind fun abh=>
 cond (!decide (abh= 0)) (some ((none:Option bc),abh)) ((A8 F (⟨(⟨aG.Words,aG.ar,aG.aO,aG.aZ,aG.aU,aG.aS,aG.Next⟩:aV),(⟨(⟨aW.a4,aW.a0,aW.Fields,aW.Names,aW.a1⟩:aP)⟩:cb),gY.1,mn.1,mn.2.2.dM⟩:bc)).bind fun abi=>
 cond (!decide (abi= 0)) (some ((none:Option bc),abi)) ((A7 F (⟨(⟨aG.Words,aG.ar,aG.aO,aG.aZ,aG.aU,aG.aS,aG.Next⟩:aV),(⟨(⟨aW.a4,aW.a0,aW.Fields,aW.Names,aW.a1⟩:aP)⟩:cb),gY.1,mn.1,mn.2.2.dM⟩:bc)).bind fun JU=>
 cond (!decide (JU= 0)) (some ((none:Option bc),JU)) (some ((some (⟨(⟨aG.Words,aG.ar,aG.aO,aG.aZ,aG.aU,aG.aS,aG.Next⟩:aV),(⟨(⟨aW.a4,aW.a0,aW.Fields,aW.Names,aW.a1⟩:aP)⟩:cb),gY.1,mn.1,mn.2.2.dM⟩:bc)),0))))))
end J
namespace J
def jC (F:Nat) (aG:aV) (aW:aP):Option ((Option bc) × Int):=
 (m' F (⟨aW.a4,aW.a0,aW.Fields,aW.Names,aW.a1⟩:aP)).bind fun kG=>
 cond (!decide (kG= 0)) (some ((none:Option bc),kG)) ((qP F (⟨aG.Words,aG.ar,aG.aO,aG.aZ,aG.aU,aG.aS,aG.Next⟩:aV) (⟨aW.a4,aW.a0,aW.Fields,aW.Names,aW.a1⟩:aP)).bind fun hO=>
 some (hO.1,hO.2))
def Kf (s_:List Int):Option (List Int):=
 (bR 8 ([]:List Int) s_).bind fun sU=>
 some sU
def n6 (aG:aV):Option (aV):=
 (Kf aG.Words).bind fun gd=>
 (Kf aG.aS).bind fun hb=>
 some (⟨gd,aG.ar,aG.aO,aG.aZ,aG.aU,hb,aG.Next⟩:aV)
def OU (aG:aV) (gf:Int) (pC:Int) (zo:Bool):Option (Int × Bool × aV):=
 cond (zo) (cond (decide ((aE ((aE ((aE (aG.ar+aG.aO))+ 1)) - aG.aU)) <(aE (3 +pC)))) (some (0,false,(⟨aG.Words,aG.ar,aG.aO,aG.aZ,aG.aU,aG.aS,aG.Next⟩:aV))) ((idx aG.Words aG.aU).bind fun aDo=>
 (some (aG.Words.set (aG.aU).toNat gf)).bind fun ZC=>
 (idx ZC (aE (aG.aU+ 1))).bind fun eG=>
 (some (ZC.set (aE (aG.aU+ 1)).toNat pC)).bind fun ZF=>
 (idx ZF (aE (aG.aU+ 2))).bind fun aDe=>
 (some (ZF.set (aE (aG.aU+ 2)).toNat aG.Next)).bind fun arQ=>
 some (aG.aU,true,(⟨arQ,aG.ar,aG.aO,aG.aZ,aE (aG.aU+(aE (3 +pC))),aG.aS,aE (aG.Next+ 1)⟩:aV)))) (cond (decide ((aE ((aE (aG.ar+ 1)) - aG.aZ)) <(aE (3 +pC)))) (some (0,false,(⟨aG.Words,aG.ar,aG.aO,aG.aZ,aG.aU,aG.aS,aG.Next⟩:aV))) ((idx aG.Words aG.aZ).bind fun aDj=>
 (some (aG.Words.set (aG.aZ).toNat gf)).bind fun ZH=>
 (idx ZH (aE (aG.aZ+ 1))).bind fun aDk=>
 (some (ZH.set (aE (aG.aZ+ 1)).toNat pC)).bind fun ZI=>
 (idx ZI (aE (aG.aZ+ 2))).bind fun aDl=>
 (some (ZI.set (aE (aG.aZ+ 2)).toNat aG.Next)).bind fun asa=>
 some (aG.aZ,true,(⟨asa,aG.ar,aG.aO,aE (aG.aZ+(aE (3 +pC))),aG.aU,aG.aS,aE (aG.Next+ 1)⟩:aV))))
def Yy (F:Nat) (aG:aV) (aW:aP) (gf:Int) (pC:Int) (zo:Bool):Option (aV × Int × Int):=
 (jC F (⟨aG.Words,aG.ar,aG.aO,aG.aZ,aG.aU,aG.aS,aG.Next⟩:aV) (⟨aW.a4,aW.a0,aW.Fields,aW.Names,aW.a1⟩:aP)).bind fun hf=>
 Option.bind (α:=Int) (cond (decide (hf.2 = 0)) ((hf.1).bind fun Gi=>
 (OV (⟨(⟨Gi.S.K.a4,Gi.S.K.a0,Gi.S.K.Fields,Gi.S.K.Names,Gi.S.K.a1⟩:aP)⟩:cb) gf pC).bind fun avO=>
 some avO) (some hf.2)) fun (aab:Int)=>
 cond (!decide (aab= 0)) (some ((⟨[],0,0,0,0,[],0⟩:aV),0,aab)) ((n6 (⟨aG.Words,aG.ar,aG.aO,aG.aZ,aG.aU,aG.aS,aG.Next⟩:aV)).bind fun rl=>
 (OU (⟨rl.Words,rl.ar,rl.aO,rl.aZ,rl.aU,rl.aS,rl.Next⟩:aV) gf pC zo).bind fun BU=>
 cond (!BU.2.1) (some ((⟨[],0,0,0,0,[],0⟩:aV),0,8)) (some ((⟨BU.2.2.Words,rl.ar,rl.aO,BU.2.2.aZ,BU.2.2.aU,rl.aS,BU.2.2.Next⟩:aV),BU.1,0)))
end J
namespace J
def rZ (b8:List Int) (cu:List Int):Nat->Int->Option (Way (Bool) (Unit))
 | 0,_=>none
 | bJ+ 1,cT=>
   cond (decide (cT <(b8.length:Int))) ((idx b8 cT).bind fun lD=>
   (idx cu cT).bind fun lE=>
   cond (!decide (lD=lE)) (some (.out false)) (rZ b8 cu bJ (aE (cT+ 1)))) (some (.go ()))
def nR (F:Nat) (b8:List Int) (cu:List Int):Option (Bool):=
 cond (!decide ((b8.length:Int)=(cu.length:Int))) (some false) (cd (α:=Unit) (rZ b8 cu F 0) fun (_:Unit)=>
 some true)
def xO (F:Nat) (b8:aV) (cu:aV):Option (Bool):=
 (nR F b8.Words cu.Words).bind fun au0=>
 cond ((((au0 && (decide (b8.ar=cu.ar))) && (decide (b8.aO=cu.aO))) && (decide (b8.aZ=cu.aZ))) && (decide (b8.aU=cu.aU))) ((nR F b8.aS cu.aS).bind fun Sh=>
 some (Sh && (decide (b8.Next=cu.Next)))) (some false)
def oV (F:Nat) (aG:aV) (e_:Int) (KB:Int) (zD:aV):Option (Bool):=
 Option.bind (α:=(List Int) × Int × Int × Int × Int × (List Int) × Int) (cond (!decide (KB= 0)) (some ([],0,0,0,0,[],0)) (some (zD.Words,zD.ar,zD.aO,zD.aZ,zD.aU,zD.aS,zD.Next))) fun ((aru,as9,as_,as',ata,arI,atd):(List Int) × Int × Int × Int × Int × (List Int) × Int)=>
 cond (decide (e_=KB)) ((xO F (⟨aG.Words,aG.ar,aG.aO,aG.aZ,aG.aU,aG.aS,aG.Next⟩:aV) (⟨aru,as9,as_,as',ata,arI,atd⟩:aV)).bind fun Sq=>
 some Sq) (some false)
end J
namespace J
def Aj (aW:aP) (gf:Int):Option (Bool):=
 some ((decide (1 <=gf)) && (decide (gf <(aE (3 +(aW.a4.length:Int))))))
def Ai (aW:aP) (gf:Int) (df:Int):Option (Bool):=
 (fv df 0 500).bind fun hb=>
 cond (hb) (cond (decide (gf < 3)) (some true) ((idx aW.Fields (aE (gf - 3))).bind fun TF=>
 some (decide (df=(TF.length:Int))))) (some false)
def uo (aW:aP) (gf:Int) (df:Int):Option (Bool):=
 cond (decide (gf= 2)) (some true) (cond (decide (3 <=gf)) ((idx aW.Fields (aE (gf - 3))).bind fun TB=>
 (idx TB df).bind fun TI=>
 some (!decide (TI.Kind.Kind= 1))) (some false))
def uk (aG:aV) (aW:aP) (jd:Int):Nat->(List Int)->Int->Option (Way ((List Int) × Bool) ((List Int) × Int))
 | 0,_,_=>none
 | bJ+ 1,ZG,tn=>
   cond (decide (tn <jd)) (cond (decide (jd <(aE (tn+ 3)))) (some (.out ([],false))) ((idx aG.Words tn).bind fun az3=>
   (Aj (⟨aW.a4,aW.a0,aW.Fields,aW.Names,aW.a1⟩:aP) az3).bind fun avG=>
   cond (!avG) (some (.out ([],false))) ((idx aG.Words tn).bind fun az8=>
   (idx aG.Words (aE (tn+ 1))).bind fun az'=>
   (Ai (⟨aW.a4,aW.a0,aW.Fields,aW.Names,aW.a1⟩:aP) az8 az').bind fun avJ=>
   cond (!avJ) (some (.out ([],false))) ((bR 8 ZG [tn]).bind fun arU=>
   (idx aG.Words (aE (tn+ 1))).bind fun aAu=>
   uk aG aW jd bJ arU (aE (tn+(aE (3 +aAu)))))))) (some (.go (ZG,tn)))
def o0 (F:Nat) (aG:aV) (aW:aP) (from_:Int) (jd:Int):Option ((List Int) × Bool):=
 cd (α:=(List Int) × Int) (uk aG aW jd F [] from_) fun ((arN,ate):(List Int) × Int)=>
 some (arN,decide (ate=jd))
def xH (a8:List Int) (df:Int):Nat->Int->Option (Way (Bool) (Unit))
 | 0,_=>none
 | bJ+ 1,g_=>
   cond (decide (g_ <(a8.length:Int))) ((idx a8 g_).bind fun zQ=>
   cond (decide (zQ=df)) (some (.out true)) (xH a8 df bJ (aE (g_+ 1)))) (some (.go ()))
def kg (F:Nat) (a8:List Int) (df:Int):Option (Bool):=
 cd (α:=Unit) (xH a8 df F 0) fun (_:Unit)=>
 some false
def rX (at_:Int) (aG:aV) (aW:aP):Nat->(List Int)->Int->Option (List Int)
 | 0,_,_=>none
 | bJ+ 1,P9,Ji=>
   (idx aG.Words (aE (at_+ 1))).bind fun aAy=>
   cond (decide (Ji <aAy)) (Option.bind (α:=List Int) ((idx aG.Words at_).bind fun aAB=>
   (uo (⟨aW.a4,aW.a0,aW.Fields,aW.Names,aW.a1⟩:aP) aAB Ji).bind fun avM=>
   cond (avM) ((bR 8 P9 [aE ((aE (at_+ 3))+Ji)]).bind fun arX=>
   some arX) (some P9)) fun (arW:List Int)=>
   rX at_ aG aW bJ arW (aE (Ji+ 1))) (some P9)
def nQ (F:Nat) (aG:aV) (aW:aP) (at_:Int):Option (List Int):=
 Option.bind (α:=List Int) (rX at_ aG aW F [] 0) fun (arR:List Int)=>
 some arR
def o1 (F:Nat) (aG:aV) (aW:aP):Option ((List Int) × (List Int) × Bool):=
 (o0 F (⟨aG.Words,aG.ar,aG.aO,aG.aZ,aG.aU,aG.aS,aG.Next⟩:aV) (⟨aW.a4,aW.a0,aW.Fields,aW.Names,aW.a1⟩:aP) 1 aG.aZ).bind fun kG=>
 (o0 F (⟨aG.Words,aG.ar,aG.aO,aG.aZ,aG.aU,aG.aS,aG.Next⟩:aV) (⟨aW.a4,aW.a0,aW.Fields,aW.Names,aW.a1⟩:aP) (aE (aG.ar+ 1)) aG.aU).bind fun gY=>
 some (kG.1,gY.1,kG.2 && gY.2)
end J
namespace J
def xi (aG:aV) (hx:List Int):Nat->Int->Option (Way (Int) (Unit))
 | 0,_=>none
 | bJ+ 1,QB=>
   cond (decide (QB <(hx.length:Int))) ((idx hx QB).bind fun Tz=>
   (idx aG.Words (aE (Tz+ 2))).bind fun zI=>
   (fv zI 1 (aE (aG.Next - 1))).bind fun au4=>
   cond (!au4) (some (.out 3)) (xi aG hx bJ (aE (QB+ 1)))) (some (.go ()))
def xj (aG:aV) (hx:List Int) (zj:Int):Nat->Int->Option (Way (Int) (Unit))
 | 0,_=>none
 | hv+ 1,QC=>
   cond (decide (QC <zj)) ((idx hx zj).bind fun azc=>
   (idx aG.Words (aE (azc+ 2))).bind fun azd=>
   (idx hx QC).bind fun aze=>
   (idx aG.Words (aE (aze+ 2))).bind fun azg=>
   cond (decide (azd=azg)) (some (.out 6)) (xj aG hx zj hv (aE (QC+ 1)))) (some (.go ()))
def uc (F:Nat) (aG:aV) (hx:List Int):Nat->Int->Option (Way (Int) (Unit))
 | 0,_=>none
 | ez+ 1,zj=>
   cond (decide (zj <(hx.length:Int))) (cS (α:=Unit) (cS (α:=Unit) (xj aG hx zj F 0) fun (_:Unit)=>
   some (.go ())) fun (_:Unit)=>
   uc F aG hx ez (aE (zj+ 1))) (some (.go ()))
def ud (F:Nat) (aG:aV) (hx:List Int) (zs:List Int):Nat->Int->Option (Way (Int) (Unit))
 | 0,_=>none
 | qV+ 1,EM=>
   cond (decide (EM <(zs.length:Int))) ((idx zs EM).bind fun azV=>
   (idx aG.Words azV).bind fun azW=>
   cond (!decide (azW= 0)) ((idx zs EM).bind fun azY=>
   (idx aG.Words azY).bind fun az0=>
   (kg F hx az0).bind fun avE=>
   cond (!avE) (some (.out 5)) (ud F aG hx zs qV (aE (EM+ 1)))) (ud F aG hx zs qV (aE (EM+ 1)))) (some (.go ()))
def xk (F:Nat) (aG:aV) (aW:aP) (hx:List Int):Nat->Int->Option (Way (Int) (Unit))
 | 0,_=>none
 | kx+ 1,QK=>
   cond (decide (QK <(hx.length:Int))) (cS (α:=Unit) ((idx hx QK).bind fun azS=>
   (nQ F (⟨aG.Words,aG.ar,aG.aO,aG.aZ,aG.aU,aG.aS,aG.Next⟩:aV) (⟨aW.a4,aW.a0,aW.Fields,aW.Names,aW.a1⟩:aP) azS).bind fun zs=>
   cS (α:=Unit) (ud F aG hx zs F 0) fun (_:Unit)=>
   some (.go ())) fun (_:Unit)=>
   xk F aG aW hx kx (aE (QK+ 1))) (some (.go ()))
def rU (aG:aV):Nat->Int->Option (Way (Int) (Unit))
 | 0,_=>none
 | vn+ 1,zf=>
   cond (decide (zf <(aG.Words.length:Int))) ((idx aG.Words zf).bind fun az2=>
   cond (!decide (az2= 0)) (cond (decide (zf= 0)) (some (.out 1)) ((fv zf aG.aZ aG.ar).bind fun avF=>
   cond (avF || (decide (aG.aU<=zf))) (some (.out 1)) (rU aG vn (aE (zf+ 1))))) (rU aG vn (aE (zf+ 1)))) (some (.go ()))
def nO (F:Nat) (aG:aV) (aW:aP) (ed:(List Int) × (List Int) × Bool):Nat->Int->Option (Way (Int) (Unit))
 | 0,_=>none
 | II+ 1,j3=>
   cond (decide (j3 <(aG.aS.length:Int))) (cond (decide (0 <j3)) ((idx aG.aS j3).bind fun az4=>
   (idx aG.aS (aE (j3 - 1))).bind fun az5=>
   cond (decide (az4<=az5)) (some (.out 4)) ((idx aG.aS j3).bind fun az6=>
   (kg F ed.2.1 az6).bind fun St=>
   cond (!St) (some (.out 4)) ((idx aG.aS j3).bind fun TR=>
   (nQ F (⟨aG.Words,aG.ar,aG.aO,aG.aZ,aG.aU,aG.aS,aG.Next⟩:aV) (⟨aW.a4,aW.a0,aW.Fields,aW.Names,aW.a1⟩:aP) TR).bind fun Su=>
   cond (decide ((Su.length:Int)= 0)) (some (.out 4)) (nO F aG aW ed II (aE (j3+ 1)))))) ((idx aG.aS j3).bind fun az7=>
   (kg F ed.2.1 az7).bind fun avH=>
   cond (!avH) (some (.out 4)) ((idx aG.aS j3).bind fun az9=>
   (nQ F (⟨aG.Words,aG.ar,aG.aO,aG.aZ,aG.aU,aG.aS,aG.Next⟩:aV) (⟨aW.a4,aW.a0,aW.Fields,aW.Names,aW.a1⟩:aP) az9).bind fun avI=>
   cond (decide ((avI.length:Int)= 0)) (some (.out 4)) (nO F aG aW ed II (aE (j3+ 1)))))) (some (.go ()))
def oX (F:Nat) (aG:aV) (ed:(List Int) × (List Int) × Bool) (h0:Int) (nk:List Int):Nat->Int->Option (Way (Int) (Unit))
 | 0,_=>none
 | IJ+ 1,pN=>
   cond (decide (pN <(nk.length:Int))) ((idx nk pN).bind fun aAO=>
   (idx aG.Words aAO).bind fun aAP=>
   (fv aAP 1 aG.ar).bind fun avY=>
   cond (avY) ((idx ed.2.1 h0).bind fun aAQ=>
   (kg F aG.aS aAQ).bind fun avZ=>
   cond (!avZ) (some (.out 4)) (oX F aG ed h0 nk IJ (aE (pN+ 1)))) (oX F aG ed h0 nk IJ (aE (pN+ 1)))) (some (.go ()))
def qk (F:Nat) (aG:aV) (aW:aP) (ed:(List Int) × (List Int) × Bool):Nat->Int->Option (Way (Int) (Unit))
 | 0,_=>none
 | P1+ 1,h0=>
   cond (decide (h0 <(ed.2.1.length:Int))) (cS (α:=Unit) ((idx ed.2.1 h0).bind fun aAM=>
   (nQ F (⟨aG.Words,aG.ar,aG.aO,aG.aZ,aG.aU,aG.aS,aG.Next⟩:aV) (⟨aW.a4,aW.a0,aW.Fields,aW.Names,aW.a1⟩:aP) aAM).bind fun nk=>
   cS (α:=Unit) (oX F aG ed h0 nk F 0) fun (_:Unit)=>
   some (.go ())) fun (_:Unit)=>
   qk F aG aW ed P1 (aE (h0+ 1))) (some (.go ()))
def Af (F:Nat) (aG:aV) (aW:aP):Option (Int):=
 (fv aG.ar 3 2000).bind fun kG=>
 cond (!kG) (some 3) ((fv aG.aO 3 2000).bind fun hO=>
 cond (!hO) (some 3) (cond (!decide ((aG.Words.length:Int)=(aE ((aE (1 +aG.ar))+aG.aO)))) (some 1) ((fv aG.aZ 1 (aE (aG.ar+ 1))).bind fun BS=>
 cond (!BS) (some 3) ((fv aG.aU (aE (aG.ar+ 1)) (aE ((aE (aG.ar+aG.aO))+ 1))).bind fun mn=>
 cond ((!mn) || (decide (aG.Next < 1))) (some 3) ((o1 F (⟨aG.Words,aG.ar,aG.aO,aG.aZ,aG.aU,aG.aS,aG.Next⟩:aV) (⟨aW.a4,aW.a0,aW.Fields,aW.Names,aW.a1⟩:aP)).bind fun ed=>
 cond (!ed.2.2) (some 1) ((bR 8 ([]:List Int) ed.1).bind fun arS=>
 (bR 8 arS ed.2.1).bind fun hx=>
 cd (α:=Unit) (xi aG hx F 0) fun (_:Unit)=>
 cd (α:=Unit) (uc F aG hx F 0) fun (_:Unit)=>
 cd (α:=Unit) (xk F aG aW hx F 0) fun (_:Unit)=>
 cd (α:=Unit) (rU aG F 0) fun (_:Unit)=>
 cd (α:=Unit) (nO F aG aW ed F 0) fun (_:Unit)=>
 cd (α:=Unit) (qk F aG aW ed F 0) fun (_:Unit)=>
 some 0))))))
def qo (F:Nat) (aG:aV) (aW:aP):Option (Int):=
 (rW F (⟨aW.a4,aW.a0,aW.Fields,aW.Names,aW.a1⟩:aP)).bind fun kG=>
 cond (decide (kG= 0)) ((Af F (⟨aG.Words,aG.ar,aG.aO,aG.aZ,aG.aU,aG.aS,aG.Next⟩:aV) (⟨aW.a4,aW.a0,aW.Fields,aW.Names,aW.a1⟩:aP)).bind fun hO=>
 some hO) (some kG)
end J
namespace J
def UH (aG:aV):Option (Int):=
 some (aE ((aE ((aE ((aE (aG.ar+aG.aO))+ 1)) - aG.aU)) - (aE (aG.aZ - 1))))
def agW (F:Nat) (aG:aV) (aW:aP):Option (Int × Int):=
 (jC F (⟨aG.Words,aG.ar,aG.aO,aG.aZ,aG.aU,aG.aS,aG.Next⟩:aV) (⟨aW.a4,aW.a0,aW.Fields,aW.Names,aW.a1⟩:aP)).bind fun kG=>
 cond (!decide (kG.2 = 0)) (some (0,kG.2)) ((UH (⟨aG.Words,aG.ar,aG.aO,aG.aZ,aG.aU,aG.aS,aG.Next⟩:aV)).bind fun JU=>
 some (JU,0))
def Vb (aG:aV):Option (Int):=
 some (aE ((aE ((aE ((aE ((aE (aG.ar+aG.aO))+ 1)) - aG.aU)) - aG.aZ))+ 1))
end J
namespace J
def LK (at_:Int) (eO:bc):Option (Bool):=
 cond (!decide (at_= 0)) ((A4 (⟨(⟨eO.H.Words,eO.H.ar,eO.H.aO,eO.H.aZ,eO.H.aU,eO.H.aS,eO.H.Next⟩:aV),(⟨(⟨eO.S.K.a4,eO.S.K.a0,eO.S.K.Fields,eO.S.K.Names,eO.S.K.a1⟩:aP)⟩:cb),eO.ar,eO.aO,eO.dM⟩:bc) at_).bind fun BS=>
 some (!BS)) (some false)
def wq (s_:List Int) (cl:bc):Nat->Int->Option (Way (Int) (Unit))
 | 0,_=>none
 | bJ+ 1,jr=>
   cond (decide (jr <(s_.length:Int))) ((idx s_ jr).bind fun Uh=>
   (LK Uh (⟨(⟨cl.H.Words,cl.H.ar,cl.H.aO,cl.H.aZ,cl.H.aU,cl.H.aS,cl.H.Next⟩:aV),(⟨(⟨cl.S.K.a4,cl.S.K.a0,cl.S.K.Fields,cl.S.K.Names,cl.S.K.a1⟩:aP)⟩:cb),cl.ar,cl.aO,cl.dM⟩:bc)).bind fun Sx=>
   cond (Sx) (some (.out jr)) (wq s_ cl bJ (aE (jr+ 1)))) (some (.go ()))
def Km (F:Nat) (s_:List Int) (cl:bc):Option (Int):=
 cd (α:=Unit) (wq s_ cl F 0) fun (_:Unit)=>
 some (-1)
def Ki (F:Nat) (s_:List Int) (cl:bc):Option (Bool):=
 (Km F s_ (⟨(⟨cl.H.Words,cl.H.ar,cl.H.aO,cl.H.aZ,cl.H.aU,cl.H.aS,cl.H.Next⟩:aV),(⟨(⟨cl.S.K.a4,cl.S.K.a0,cl.S.K.Fields,cl.S.K.Names,cl.S.K.a1⟩:aP)⟩:cb),cl.ar,cl.aO,cl.dM⟩:bc)).bind fun E_=>
 some (decide (0 <=E_))
def w7 (F:Nat) (aH:bc) (h4:List Int):Option (Int):=
 cond (decide (1000 <(h4.length:Int))) (some 2) ((Ki F h4 (⟨(⟨aH.H.Words,aH.H.ar,aH.H.aO,aH.H.aZ,aH.H.aU,aH.H.aS,aH.H.Next⟩:aV),(⟨(⟨aH.S.K.a4,aH.S.K.a0,aH.S.K.Fields,aH.S.K.Names,aH.S.K.a1⟩:aP)⟩:cb),aH.ar,aH.aO,aH.dM⟩:bc)).bind fun E_=>
 cond (E_) (some 5) (some 0))
def nP (F:Nat) (h4:List Int) (hO:(List Int) × (List Int) × Bool):Nat->Int->Option (Way (Int) (Unit))
 | 0,_=>none
 | bJ+ 1,mj=>
   cond (decide (mj <(h4.length:Int))) ((idx h4 mj).bind fun azj=>
   cond (!decide (azj= 0)) ((idx h4 mj).bind fun azm=>
   (kg F hO.1 azm).bind fun ava=>
   cond (!ava) ((idx h4 mj).bind fun azt=>
   (kg F hO.2.1 azt).bind fun avf=>
   cond (!avf) (some (.out 5)) (nP F h4 hO bJ (aE (mj+ 1)))) (nP F h4 hO bJ (aE (mj+ 1)))) (nP F h4 hO bJ (aE (mj+ 1)))) (some (.go ()))
def Ag (F:Nat) (aG:aV) (aW:aP) (h4:List Int):Option (Int):=
 cond (decide (1000 <(h4.length:Int))) (some 2) ((o1 F (⟨aG.Words,aG.ar,aG.aO,aG.aZ,aG.aU,aG.aS,aG.Next⟩:aV) (⟨aW.a4,aW.a0,aW.Fields,aW.Names,aW.a1⟩:aP)).bind fun hO=>
 cd (α:=Unit) (nP F h4 hO F 0) fun (_:Unit)=>
 some 0)
def rR (F:Nat) (aG:aV) (aW:aP) (h4:List Int):Option (Int):=
 (qo F (⟨aG.Words,aG.ar,aG.aO,aG.aZ,aG.aU,aG.aS,aG.Next⟩:aV) (⟨aW.a4,aW.a0,aW.Fields,aW.Names,aW.a1⟩:aP)).bind fun abf=>
 cond (decide (abf= 0)) ((Ag F (⟨aG.Words,aG.ar,aG.aO,aG.aZ,aG.aU,aG.aS,aG.Next⟩:aV) (⟨aW.a4,aW.a0,aW.Fields,aW.Names,aW.a1⟩:aP) h4).bind fun gY=>
 some gY) (some abf)
end J
namespace J
def Vc (a8:List Int) (df:Int):Nat->Int->Option (Way (Int) (Unit))
 | 0,_=>none
 | bJ+ 1,g_=>
   cond (decide (g_ <(a8.length:Int))) ((idx a8 g_).bind fun zQ=>
   cond (decide (zQ=df)) (some (.out g_)) (Vc a8 df bJ (aE (g_+ 1)))) (some (.go ()))
def CU (F:Nat) (a8:List Int) (df:Int):Option (Int):=
 cd (α:=Unit) (Vc a8 df F 0) fun (_:Unit)=>
 some (-1)
def xB (F:Nat) (at_:Int) (eO:aV) (JO:List Int):Option (List Int):=
 (fv at_ 1 eO.ar).bind fun hb=>
 cond (hb) ((kg F JO at_).bind fun hd=>
 cond (!hd) ((bR 8 JO [at_]).bind fun arH=>
 some arH) (some JO)) (some JO)
end J
namespace Go.Proofs.YteeliipnilghaaaGreat
open Go Go.RowKit av J bz
@[reducible] noncomputable def Zw (F:Nat):ib bO:=⟨[.p (.B 0),.p (.i .i64)],[.c 117 [.l 134,.M 1,.l 3],.m 9 3],[.p (.R 2)],[.c 117 [.l 134,.M 1,.l 3],.m 9 3,.r 136 false],List J.Field,
  fun d=>q2 F ⟨d.2.1.1,d.2.2.1,d.2.1.2.2.1⟩ d.1.2.1,fun d r=>(((),()),((d.2.1.1,(),d.2.1.2.2.1,()),d.2.2.1,r,()))⟩
@[reducible] noncomputable def Zx (F:Nat):ib bO:=⟨[.p (.B 0),.p (.i .i64)],[.c 117 [.l 134,.M 1,.l 3],.m 9 3],[.p (.R 2),.p (.R 3)],[.c 117 [.l 134,.M 1,.l 3],.m 9 3,.r 9 false,.r 166 false],List (List UInt8) × List J.Target,
  fun d=>y8 F ⟨d.2.1.1,d.2.2.1,d.2.1.2.2.1⟩ d.1.2.1,fun d r=>(((),(),()),((d.2.1.1,(),d.2.1.2.2.1,()),d.2.2.1,r.1,r.2,()))⟩
noncomputable def GF (F:Nat):dy aR:=⟨(83,(Zw F).run aR)::(82,(Zx F).run aR)::ag3.ce,[]⟩
end Go.Proofs.YteeliipnilghaaaGreat
namespace Go.Proofs.YteeliipnilghaaaGreat
open Go Go.RowKit av
set_option maxHeartbeats 4000000
set_option maxRecDepth 20000
theorem VO {W:World} {X:List Nat} {F:Nat} {aM:J.bj} {df:Int} {r:List Int} {fw:Nat} {fE:hU} {gQ:Nat} {hq:Nat} {gA:hU} {g6:Nat} {M0:List Nat} (hm:bn W M0 X W [] [bt.ii fw [.q fE gQ aM.l,.map (some hq),.q gA g6 aM.dh],cf J.jt fE gQ aM.l,bt.map la (Value.int .i64) hq aM.bY,cf (eR .i64) gA g6 aM.dh]) (h:J.pE F aM df=some r) :
 Calls Tryz.prog 114 [.cY fw,.i df].toArray W (fun e w'=>∃ UP:Option Addr,∃ VF:Nat,∃ agz:List Value,e= .returned (.q UP VF r)/\bn W M0 X w' [a7.row 3 1 (.q UP VF r) r agz] [bt.rows (eR .i64) agz r]):=by
 refine enter Tryz.func114 rfl Tryz.ntmps114 rfl fun a af=>?_;rw [J.pE] at h;refine n0 [] [] af fun a af=>n0 [] [(5,.slice none 0 0)] af fun a af=>wp_seq_k fun K sj=>?_;have hm:=hm.ER (α:=Int) 3 1;have hm:=hm.more (y:=bt.rows (eR .i64) [] []) rfl;obtain ⟨PY,h,O4⟩:=J.fW h
 refine G' (fun a w=>∃ (CG:hU) (C6:Nat) (sS:z') (Lu:mH),Fr ⟨20,[]⟩ [(5,.q CG C6 sS)] a/\bn W M0 X w [a7.row 3 1 (.q CG C6 sS) sS Lu] [bt.rows (eR .i64) Lu sS,bt.ii fw [.q fE gQ aM.l,.map (some hq),.q gA g6 aM.dh],cf J.jt fE gQ aM.l,bt.map la (Value.int .i64) hq aM.bY,cf (eR .i64) gA g6 aM.dh]/\PY=sS) (fun K sk=>?_) ?_
 · clear O4;refine Mn (fun (bJ:Nat) a w=>∃ (z6:hU) (Az:Nat) (oc:z') (Gp:mH) (lg:Int),Fr ⟨20,[]⟩ [(0,.cY fw),(1,.i lg),(5,.q z6 Az oc)] a/\bn W M0 X w [a7.row 3 1 (.q z6 Az oc) oc Gp] [bt.rows (eR .i64) Gp oc,bt.ii fw [.q fE gQ aM.l,.map (some hq),.q gA g6 aM.dh],cf J.jt fE gQ aM.l,bt.map la (Value.int .i64) hq aM.bY,cf (eR .i64) gA g6 aM.dh]/\J.pF aM bJ oc lg=some PY) F ⟨none,0,[],[],df,af.cut,hm,h⟩ ?_ ?_
   · rintro a w ⟨z6,Az,oc,Gp,lg,af,hm,h⟩;exact absurd h (by simp [J.pF])
   rintro bJ a w ⟨z6,Az,oc,Gp,lg,af,hm,h⟩ K po;rw [J.pF] at h;refine wp_seq_k fun K Dy=>n0 [] [(7,.bool (decide (0 <=lg)))] af fun a af=>Hb (af.g rfl) h (fun aoR h=>?_) (fun aoR h=>?_)
   · refine wp_skip <| Dy _ _ <| wp_seq_k fun K DA=>wp_block <| mL <| jP 2 [] [(15,.q z6 Az oc),(16,.i lg)] af fun a af=>aai (cs:=[.i lg]) wn (zZ (vs:=[(0,.i lg)]) Tryz.underlying22 Tryz.sizeOf3 Tryz.zeroValue3 rfl rfl rfl ⟨⟨(af.g rfl),rfl⟩,trivial⟩ (by kernel_rfl)) af hm rfl rfl fun a aCC w _ af hm=>?_;obtain ⟨Ex,apF,h⟩:=J.fW h;refine Fq (T:=(eR .i64)) (ml:=[lg]) 1 0 0 hm rfl rfl rfl Tryz.underlying22 aqZ rfl rfl apF rfl rfl ⟨_,_,rfl,rfl,rfl⟩ wn rfl (af.g rfl) (af.g rfl) af rfl rfl fun a UO VE aBt w af hm=>?_
     refine jP 1 [] [(5,.q UO VE Ex)] af fun a af=>wpList_nil (DA _ _ ?_);refine mL <| qw 5 [0,2] [(11,.q gA g6 aM.dh),(12,.i lg)] [fw,2] (gK (hm.d 2 rfl).2.2 g9) af fun a af=>?_;obtain ⟨nB,aqE,h⟩:=J.fW h;obtain ⟨aok,apt,_,rfl,aoY⟩:=zx _ (hm.d 5 rfl) aqE;refine nr wn (nF Tryz.underlying22 Tryz.sizeOf3 rfl (af.g rfl) (af.g rfl) aok apt) af rfl rfl fun a af=>qw 2 [0,0] [(1,.i nB)] [di gA,f_ gA+(lg).toNat* 1] (gK aoY g9) af fun a af=>wpList_nil ?_;exact po _ _ ⟨UO,VE,Ex,aBt,nB,af.cut,hm.hN [0,2,3,4,5],h⟩
   refine wp_exit <| p9 (p9 (Cx ?_));exact sk _ _ ⟨z6,Az,oc,Gp,af.cut,hm,(os h)⟩
 rintro a w ⟨CG,C6,sS,Lu,af,hm,aC⟩;subst PY;have h:=O4;clear O4;refine sj _ _ <| FG [] [(4,.q CG C6 sS)] af fun a af=>wp_ret ?_;obtain rfl:=cV h;refine Fa Tryz.results114 af rfl ?_;exact ⟨CG,C6,Lu,rfl,hm.rr [0] [0]⟩
theorem VP {W:World} {X:List Nat} {s_:List Int} {r:Unit} {mD:hU} {o9:Nat} {M0:List Nat} (hm:bn W M0 X W [] [cf (eR .i64) mD o9 s_]) (h:J.Fv s_=some r) :
 Calls Tryz.prog 116 [.q mD o9 s_].toArray W (fun e w'=>∃ g:Nat,e= .returned (.func (.func 144) #[] #[.cY g])/\bn W M0 X w' [a7.dQ g 22 [.q mD o9 s_]] []):=by
 refine enter Tryz.func116 rfl Tryz.ntmps116 rfl fun a af=>?_;clear h;refine wp_seq_k fun K yj=>mL <| vY (cs:=[.q mD o9 s_]) wn (LB rfl rfl (af.g rfl)) af hm rfl rfl fun a XY w _ af hm=>jP 1 [] [] af fun a af=>wpList_nil (yj _ _ ?_);refine FG [] [(2,.func (.func 144) #[] #[.cY XY])] af fun a af=>wp_ret <| Fa Tryz.results116 af rfl ?_;exact ⟨XY,rfl,hm.rr [0] []⟩
theorem VN:U6 Tryz.prog 144 :=by
 intro mG iZ A c e9 L w0 ao hy aN
 refine am7 (vs:=[.func (.yield L) #[] #[],.cY e9]) Tryz.func144 rfl Tryz.ntmps144 rfl (by rintro w ⟨⟨v,h⟩,_⟩;cases h) ?_
 intro a af
 obtain ⟨W,M0,X,E,hm⟩:=ao _ _ aN
 have hlen:iZ.length<=maxLen:=by
  obtain ⟨cN,bC,e1,e2,e3,_⟩:=(hm.d 1 rfl:(bZ (eR .i64)).rd _ _ _ _)
  omega
 refine lz ?_
 intro K yj
 refine ny (by kernel_rfl) ?_
 refine g0 4 [0,1,3] [0,0] (fr':=[(0,.func (.yield L) #[] #[]),(1,.cY e9),(3,.i (J.aE ((iZ.length:Int) - 1)))]) (L:=[e9,0]) pj (gK (hm.d 0 rfl).2.2 g9) af (by kernel_rfl) ?_
 intro a af
 rw [ac0 hlen] at af
 refine wpList_nil ?_
 refine yj _ _ ?_
 refine Ts ?_
 refine ade (fun k a w=>∃ (rem:z'),k=rem.length+ 1 /\(∃ pre,iZ=rem.reverse++pre)/\Fr ⟨19,[]⟩ [(0,.func (.yield L) #[] #[]),(1,.cY e9),(3,.i ((rem.length:Int) - 1))] a/\mG rem w) (iZ.length+ 1) ⟨iZ.reverse,by simp,⟨[],by simp⟩,by rw [List.length_reverse];exact af,aN⟩ (by rintro a w ⟨rem,h,_⟩;omega) ?_
 rintro k a w ⟨rem,ai,⟨pre,Ea⟩,af,yi⟩ K cP
 refine lz ?_
 intro aCk yk
 refine lz ?_
 intro aCl sj
 refine ny (by kernel_rfl) ?_
 refine g0 2 [0,1,3,8] [] (fr':=[(0,.func (.yield L) #[] #[]),(1,.cY e9),(3,.i ((rem.length:Int) - 1)),(8,.bool (decide (0 <=(rem.length:Int) - 1)))]) (L:=[]) pj g9 af (by kernel_rfl) ?_
 intro a af
 refine wpList_nil ?_
 refine sj _ _ ?_
 refine Tu (af.g rfl) (fun ah=>?_) (fun ah=>?_)
 · have ah:=of_decide_eq_true ah
   match rem,ah,Ea,af,yi,ai with
   | x::rem,_,Ea,af,yi,ai=>
   have ad:=aqQ Ea
   have e:((x::rem).length:Int) - 1 =(rem.length:Int):=by simp
   rw [e] at af
   refine KF ?_
   refine yk _ _ ?_
   refine lz ?_
   intro aCm sk
   refine Ts ?_
   refine lz ?_
   intro aCn po
   refine ayu fun eu=>?_
   refine asF 6 (by kernel_rfl) ?_
   obtain ⟨W,M0,X,E,hm⟩:=ao _ _ yi
   refine g0 4 [0,1,3,11,12,13,14] [0,0] (fr':=[(0,.func (.yield L) #[] #[]),(1,.cY e9),(3,.i (rem.length:Int)),(11,.func (.yield L) #[] #[]),(12,.i (rem.length:Int)),(13,.q A c iZ),(14,.i (rem.length:Int))]) (L:=[e9,0]) pj (gK (hm.d 0 rfl).2.2 g9) af (by kernel_rfl) ?_
   intro a af
   obtain ⟨dB,hi,_,rfl,hc⟩:=zx _ (hm.d 1 rfl) ad
   refine nr wn (nF Tryz.underlying22 Tryz.sizeOf3 rfl (af.g rfl) (af.g rfl) dB hi) af rfl rfl ?_
   intro a af
   refine g0 1 [0,1,3,11,12,16] [0,0] (fr':=[(0,.func (.yield L) #[] #[]),(1,.cY e9),(3,.i (rem.length:Int)),(11,.func (.yield L) #[] #[]),(12,.i (rem.length:Int)),(16,.i x)]) (L:=[di A,f_ A+(rem.length:Int).toNat* 1]) pj (gK hc g9) af (by kernel_rfl) ?_
   intro a af
   refine wpList_nil ?_
   refine aB8 (vs:=[.i (rem.length:Int),.i x]) wn rfl (af.g rfl) ⟨af.g rfl,af.g rfl,trivial⟩ (hy x rem _ yi) af rfl rfl ?_
   rintro _ w ⟨rfl,yi⟩
   refine ⟨_,rfl,fun a af=>?_⟩
   refine IZ eu (by kernel_rfl) ?_
   refine g0 1 [0,1,3,18] [] (fr':=[(0,.func (.yield L) #[] #[]),(1,.cY e9),(3,.i (rem.length:Int)),(18,.bool false)]) (L:=[]) pj g9 af (by kernel_rfl) ?_
   intro a af
   refine wpList_nil ?_
   refine po _ _ ?_
   refine ayt (af.g rfl) rfl ?_
   refine KF ?_
   refine sk _ _ ?_
   refine ny (by kernel_rfl) ?_
   refine g0 3 [0,1,3] [] (fr':=[(0,.func (.yield L) #[] #[]),(1,.cY e9),(3,.i (J.aE ((rem.length:Int) - 1)))]) (L:=[]) pj g9 af (by kernel_rfl) ?_
   intro a af
   have hle:rem.length<=maxLen:=by
    have:=congrArg List.length Ea
    simp at this
    omega
   rw [ac0 hle] at af
   refine wpList_nil ?_
   exact cP _ _ ⟨rem,by simpa using ai,⟨x::pre,by rw [Ea];simp⟩,af,yi⟩
 · have ah:=of_decide_eq_false ah
   have ay:rem= []:=by
    cases rem with
    | nil=>rfl
    | cons x r=>exact absurd ah (by simp)
   subst ay
   refine Tv ?_
   refine p9 ?_
   refine p9 ?_
   refine Cx ?_
   refine akY ?_
   refine awb Tryz.results144 af ?_
   exact ⟨⟨_,rfl⟩,yi⟩
theorem alp {W:World} {X:List Nat} {F:Nat} {aM:J.bj} {df:Int} {r:List J.Field} {fw:Nat} {fE:hU} {gQ:Nat} {hq:Nat} {gA:hU} {g6:Nat} {M0:List Nat} (hm:bn W M0 X W [] [bt.ii fw [.q fE gQ aM.l,.map (some hq),.q gA g6 aM.dh],cf J.jt fE gQ aM.l,bt.map la (Value.int .i64) hq aM.bY,cf (eR .i64) gA g6 aM.dh]) (h:J.q2 F aM df=some r) :
 Calls Tryz.prog 83 [.cY fw,.i df].toArray W (fun e w'=>∃ UW:Option Addr,∃ VL:Nat,∃ agy:List Value,e= .returned (.q UW VL r)/\bn W M0 X w' [a7.row 136 3 (.q UW VL r) r agy] [bt.rows J.iB agy r]):=by
 refine WU Tryz.func83 rfl Tryz.ntmps83 rfl fun a af=>?_;rw [J.q2] at h;refine wp_seq_k fun K yj=>mL <| vY (cs:=[.cY fw]) wn (LB rfl rfl (af.g rfl)) af hm rfl rfl fun a k2 w _ af hm=>jP 1 [] [] af fun a af=>wpList_nil (yj _ _ ?_);refine wp_seq_k fun K yk=>mL <| vY (cs:=[.slice none 0 0]) wn (w4 Tryz.zeroValue124 rfl rfl) af hm rfl rfl fun a g7 w _ af hm=>wpList_nil <| yk _ _ <| wp_seq_k fun K sj=>wp_seq_k fun K sk=>mL ?_
 refine qw 2 [0,0] [(8,.cY fw),(9,.i df)] [k2,0] (gK (jO (hm.e 1 rfl)) g9) af fun a af=>?_;obtain ⟨tv,ap',h⟩:=J.fW h;have hc:=hm;refine Fs (vs:=[.cY fw,.i df]) wn rfl Tryz.call114 ⟨(af.g rfl),(af.g rfl),trivial⟩ (VO ((hc.into 0).pick ⟨⟨0,rfl⟩,⟨1,rfl⟩,⟨2,rfl⟩,⟨3,rfl⟩,trivial⟩) ap') af rfl rfl ?_;rintro _ w ⟨Gw,G3,aDp,rfl,aA⟩;refine ⟨_,rfl,fun a af=>?_⟩;have hm:=hc.back 0 aA;clear aA hc;obtain ⟨Sh,aqb,h⟩:=J.fW h;have hc:=hm;have ak:=hc.freeze 0 0 rfl rfl
 refine Fs (vs:=[.q Gw G3 tv]) wn rfl Tryz.call116 ⟨(af.g rfl),trivial⟩ (VP ((ak.into 0).pick ⟨⟨0,rfl⟩,trivial⟩) aqb) af rfl rfl ?_;rintro _ w ⟨XX,rfl,aA⟩;refine ⟨_,rfl,fun a af=>?_⟩;have ag:bp [] _ w:=aA.b6;have hm:=hc.fV 0 (by exact trivial) aA;clear aA hc ak;clear ag;refine wpList_nil ?_;have af:=af.cut (l':=[(2,.cY k2),(5,.cY g7),(11,.func (.func 144) #[] #[.cY XX])]);refine sk _ _ <| wp_block ?_;have hm:=hm.freeze 1 0 rfl rfl;have hm:=hm.XS 0 rfl;have hm:=hm.ER (α:=J.Field) 136 3
 have hm:=hm.more (y:=bt.rows J.iB [] []) rfl;obtain ⟨aq9,O',h⟩:=J.fW h
 refine VM (c:=G3) (A:=Gw) (β:=(Option Addr) × (Nat) × (List J.Field) × (List Value)) (l1:=fun _ wF=>[(2,.cY k2),(5,.cY g7),(7,.i wF)]) (fun ((rL,r',jZ,zX):(Option Addr) × (Nat) × (List J.Field) × (List Value))=>[a7.row 136 3 (.q rL r' jZ) jZ zX,a7.dQ g7 124 [.q rL r' jZ],a7.dQ k2 113 [.cY fw]]) (fun ((rL,r',jZ,zX):(Option Addr) × (Nat) × (List J.Field) × (List Value))=>[bt.rows J.iB zX jZ,bt.ii XX [.q Gw G3 tv],cf (eR .i64) Gw G3 tv,bt.ii fw [.q fE gQ aM.l,.map (some hq),.q gA g6 aM.dh],cf J.jt fE gQ aM.l,bt.map la (Value.int .i64) hq aM.bY,cf (eR .i64) gA g6 aM.dh]) (fun (J3:z') ((rL,r',jZ,zX):(Option Addr) × (Nat) × (List J.Field) × (List Value))=>J.vu aM J3 jZ=some aq9) tv (none,0,[],[]) 1 2 VN Tryz.call144 af rfl rfl rfl (hm.hN [0,1,2,4,5,6,7]) O' (fun b=>by obtain ⟨_,_,_,_⟩:=b;rfl) (fun b=>by obtain ⟨_,_,_,_⟩:=b;rfl) ?_ ?_ ?_
 · clear h O' hm af;intro L aqO wF w a K af cP;refine ny (by kernel_rfl) <| jP 1 [] [(7,.i wF)] af fun a af=>wpList_nil ?_;exact cP _ af.cut
 · clear h O' hm af;intro L dH dz bB c9 b aqO wF J3 w a K h af hm cP;obtain ⟨rL,r',jZ,zX⟩:=b;dsimp only at h hm;rw [J.vu] at h;refine Ts <| adb (m:=11) 9 (bp []) (by kernel_rfl) rfl (by kernel_rfl) fun w ag=>?_;have hm:=hm.ff ag;clear ag;have dI:=hm;have ch:=bp.refl [] w;refine ea [0,1,2,3,4,5] 6 [0,0,1,0,2,0] [(14,.q rL r' jZ),(18,.q fE gQ aM.l),(19,.i wF)] [fw,0,k2,0,g7,0] (fun fQ ag=>(gK (AQ ag (jO (dI.e 3 rfl))) (gK (AQ ag (jO (dI.e 4 rfl))) (gK (AQ ag (dI.d 3 rfl).2.2) g9)))) af ch fun a af=>?_;obtain ⟨wZ,aqG,h⟩:=J.fW h
   obtain ⟨aon,apw,_,⟨LO,Mj,UQ,VJ,rfl,Yu,Yv⟩,ao1⟩:=zx _ (dI.d 4 rfl) aqG;have dI:=dI.more (y:=cf J.iB LO Mj wZ.Fields) Yu;have hm:=hm.more (y:=cf J.iB LO Mj wZ.Fields) Yu;have dI:=dI.more (y:=cf J.oM UQ VJ wZ.bb) Yv;have hm:=hm.more (y:=cf J.oM UQ VJ wZ.bb) Yv;refine akT 6 rfl (by kernel_rfl) wn (fun fQ=>nF Tryz.underlying25 Tryz.sizeOf134 rfl (af.g rfl) (af.g rfl) aon apw) ch af rfl rfl fun a af=>?_
   refine ea [7,8] 2 [0,2] [(22,.q LO Mj wZ.Fields)] [di fE,f_ fE+(wF).toNat* 4 + 2] (fun fQ ag=>(gK (AQ ag ao1) g9)) af ch fun a af=>kY 9 rfl (by kernel_rfl) (fun _=>ch) ?_;obtain ⟨IU,apI,h⟩:=J.fW h;refine axw (T:=J.iB) 2 2 1 hm rfl rfl rfl Tryz.underlying124 aqY rfl rfl apI rfl wn rfl (af.g rfl) (af.g rfl) af rfl rfl fun a UU VK aBw w af hm=>jj ?_;clear dI ch;have dI:=hm;have ch:=bp.refl [] w;refine eS.next 10 (bp [] w) (by kernel_rfl) <| kY 10 rfl (by kernel_rfl) (fun _=>ch) ?_
   refine tC (vs:=[.q UU VK IU]) 3 hm rfl wn rfl Tryz.sizeOf124 rfl rfl rfl rfl (af.g rfl) (af.g rfl) rfl fun w hm=>jj ?_;clear dI ch;have dI:=hm;have ch:=bp.refl [] w;refine eS.next 11 (bp [] w) (by kernel_rfl) <| GY (by kernel_rfl) ?_ (fun _=>ch);clear dI ch;have af:=af.cut (l':=[]);exact cP (UU,VK,IU,aBw) _ _ h (hm.hN [0,4,5,6,7,8,9])
 clear hm af;intro aCG b a w Pa af hm;obtain ⟨rL,r',jZ,zX⟩:=b;dsimp only at Pa hm;rw [J.vu] at Pa;obtain rfl:=cV Pa;have af:=af.cut (l':=[(5,.cY g7)]);refine sj _ _ <| wp_seq_k fun K po=>rg [0,0] [(4,.q rL r' jZ)] [g7,0] (gK (jO (hm.e 2 rfl)) g9) af fun a af=>po _ _ <| wp_ret ?_;obtain rfl:=cV h;refine asR 0 Tryz.results83 af hm rfl rfl fun w hm=>?_;exact ⟨rL,r',zX,rfl,hm.rr [1] [0]⟩
end Go.Proofs.YteeliipnilghaaaGreat
namespace Go.Proofs.YteeliipnilghaaaGreat
open Go Go.RowKit av
set_option maxHeartbeats 4000000
set_option maxRecDepth 20000
theorem als {W:World} {X:List Nat} {F:Nat} {s_:List (List UInt8)} {aH:List UInt8} {r:Int} {mD:hU} {o9:Nat} {M0:List Nat} (hm:bn W M0 X W [] [cf iA mD o9 s_]) (h:J.FF F s_ aH=some r) :
 Calls Tryz.prog 117 [.q mD o9 s_,cg aH].toArray W (fun e w'=>e= .returned (.i r)/\bn W M0 X w' [] []):=by
 refine enter Tryz.func117 rfl Tryz.ntmps117 rfl fun a af=>?_;rw [J.FF] at h;refine n0 [] [] af fun a af=>wp_seq_k fun K yk=>n0 [] [(7,.i (s_.length:Int)),(8,.i 0)] af fun a af=>?_;obtain ⟨PZ,h,O5⟩:=J.axA h;refine G' (fun a w=>Fr ⟨19,[]⟩ [] a/\bn W M0 X w [] [cf iA mD o9 s_]/\PZ=(.go ())) (fun K sk=>?_) ?_
 · refine Mn (fun (bJ:Nat) a w=>∃ (g_:Int),Fr ⟨19,[]⟩ [(0,.q mD o9 s_),(1,cg aH),(7,.i (s_.length:Int)),(8,.i g_)] a/\bn W M0 X w [] [cf iA mD o9 s_]/\J.wu s_ aH bJ g_=some PZ) F ⟨0,af.cut,hm,h⟩ ?_ ?_
   · rintro a w ⟨g_,af,hm,h⟩;exact absurd h (by simp [J.wu])
   rintro bJ a w ⟨g_,af,hm,h⟩ K po;rw [J.wu] at h;refine n0 [] [(9,.bool (decide (g_ <(s_.length:Int))))] af fun a af=>wp_seq_k fun K Dz=>Hb (af.g rfl) h (fun aoT h=>?_) (fun aoT h=>?_)
   · refine wp_skip <| Dz _ _ <| wp_seq_k fun K DA=>wp_block <| n0 [] [(5,.i g_)] af fun a af=>wp_seq_k fun K Dx=>mL <| jP 3 [] [(11,cg aH),(12,.q mD o9 s_),(13,.i g_)] af fun a af=>?_;obtain ⟨zQ,aqF,h⟩:=J.fW h;obtain ⟨aol,apu,_,rfl,aoZ⟩:=zx _ (hm.d 0 rfl) aqF;refine nr wn (nF Tryz.underlying120 Tryz.sizeOf9 rfl (af.g rfl) (af.g rfl) aol apu) af rfl rfl fun a af=>qw 2 [0,0] [(16,.bool (decide (aH=zQ)))] [di mD,f_ mD+(g_).toNat* 1] (gK aoZ g9) af fun a af=>wpList_nil (Dx _ _ ?_);refine Hb (af.g rfl) h (fun aoU h=>?_) (fun aoU h=>?_)
     · refine FG [] [(4,.i g_)] af fun a af=>wp_ret ?_;obtain rfl:=cV h;obtain rfl:=cV O5;refine agv (Ls (Ls (agv (Ls (Ls ?_)))));refine Fa Tryz.results117 af rfl ?_;exact ⟨rfl,hm.rr [] []⟩
     refine wp_skip <| DA _ _ <| Wf [] [(8,.i (J.aE (g_+ 1)))] af fun a af=>?_;exact po _ _ ⟨J.aE (g_+ 1),af.cut,hm,h⟩
   refine wp_exit <| p9 (p9 (Cx ?_));exact sk _ _ ⟨af.cut,hm,(os h)⟩
 rintro a w ⟨af,hm,aC⟩;subst PZ;have h:=O5;clear O5;dsimp only [J.VZ] at h;refine yk _ _ <| FG [] [(4,.i (-1))] af fun a af=>wp_ret ?_;obtain rfl:=cV h;refine Fa Tryz.results117 af rfl ?_;exact ⟨rfl,hm.rr [] []⟩
theorem alq {W:World} {X:List Nat} {F:Nat} {aM:J.bj} {df:Int} {r:(List (List UInt8)) × (List J.Target)} {fw:Nat} {fE:hU} {gQ:Nat} {hq:Nat} {gA:hU} {g6:Nat} {M0:List Nat} (hm:bn W M0 X W [] [bt.ii fw [.q fE gQ aM.l,.map (some hq),.q gA g6 aM.dh],cf J.jt fE gQ aM.l,bt.map la (Value.int .i64) hq aM.bY,cf (eR .i64) gA g6 aM.dh]) (h:J.y8 F aM df=some r) :
 Calls Tryz.prog 82 [.cY fw,.i df].toArray W (fun e w'=>∃ US:Option Addr,∃ VH:Nat,∃ agA:List Value,∃ UT:Option Addr,∃ VI:Nat,∃ agB:List Value,e= .returned (.tuple #[.q US VH r.1,.q UT VI r.2])/\bn W M0 X w' [a7.row 9 1 (.q US VH r.1) r.1 agA,a7.row 166 2 (.q UT VI r.2) r.2 agB] [bt.rows iA agA r.1,bt.rows J.ju agB r.2]):=by
 refine WU Tryz.func82 rfl Tryz.ntmps82 rfl fun a af=>?_;rw [J.y8] at h;refine wp_seq_k fun K yj=>mL <| vY (cs:=[.cY fw]) wn (LB rfl rfl (af.g rfl)) af hm rfl rfl fun a k2 w _ af hm=>jP 2 [] [] af fun a af=>wpList_nil (yj _ _ ?_);refine wp_seq_k fun K yk=>mL <| vY (cs:=[.slice none 0 0]) wn (w4 Tryz.zeroValue120 rfl rfl) af hm rfl rfl fun a g7 w _ af hm=>wpList_nil <| yk _ _ <| wp_seq_k fun K sj=>mL <| vY (cs:=[.slice none 0 0]) wn (w4 Tryz.zeroValue121 rfl rfl) af hm rfl rfl fun a jB w _ af hm=>wpList_nil ?_
 refine sj _ _ <| wp_seq_k fun K sk=>wp_seq_k fun K po=>mL <| qw 2 [0,0] [(14,.cY fw),(15,.i df)] [k2,0] (gK (jO (hm.e 2 rfl)) g9) af fun a af=>?_;obtain ⟨iq,aqa,h⟩:=J.fW h;have hc:=hm;refine Fs (vs:=[.cY fw,.i df]) wn rfl Tryz.call114 ⟨(af.g rfl),(af.g rfl),trivial⟩ (VO ((hc.into 0).pick ⟨⟨0,rfl⟩,⟨1,rfl⟩,⟨2,rfl⟩,⟨3,rfl⟩,trivial⟩) aqa) af rfl rfl ?_;rintro _ w ⟨nK,nW,aDq,rfl,aA⟩;refine ⟨_,rfl,fun a af=>?_⟩;have hm:=hc.back 0 aA;clear aA hc;obtain ⟨hd,aqc,h⟩:=J.fW h;have hc:=hm
 have ak:=hc.freeze 0 0 rfl rfl;refine Fs (vs:=[.q nK nW iq]) wn rfl Tryz.call116 ⟨(af.g rfl),trivial⟩ (VP ((ak.into 0).pick ⟨⟨0,rfl⟩,trivial⟩) aqc) af rfl rfl ?_;rintro _ w ⟨AW,rfl,aA⟩;refine ⟨_,rfl,fun a af=>?_⟩;have ag:bp [] _ w:=aA.b6;have hm:=hc.fV 0 (by exact trivial) aA;clear aA hc ak;clear ag;refine wpList_nil ?_;have af:=af.cut (l':=[(2,.cY k2),(6,.cY g7),(7,.cY jB),(17,.func (.func 144) #[] #[.cY AW])]);refine po _ _ <| wp_block ?_;have hm:=hm.freeze 1 0 rfl rfl
 have hm:=hm.XS 0 rfl;have hm:=hm.ER (α:=J.Target) 166 2;have hm:=hm.more (y:=bt.rows J.ju [] []) rfl;have hm:=hm.ER (α:=List UInt8) 9 1;have hm:=hm.more (y:=bt.rows iA [] []) rfl;obtain ⟨aq8,O9,h⟩:=J.fW h
 refine VM (c:=nW) (A:=nK) (β:=(Option Addr) × (Nat) × (List (List UInt8)) × (List Value) × (Option Addr) × (Nat) × (List J.Target) × (List Value)) (l1:=fun _ eG=>[(2,.cY k2),(6,.cY g7),(7,.cY jB),(9,.i eG)]) (fun ((rM,sa,j0,w2,rN,sb,j1,w3):(Option Addr) × (Nat) × (List (List UInt8)) × (List Value) × (Option Addr) × (Nat) × (List J.Target) × (List Value))=>[a7.row 9 1 (.q rM sa j0) j0 w2,a7.row 166 2 (.q rN sb j1) j1 w3,a7.dQ jB 121 [.q rN sb j1],a7.dQ g7 120 [.q rM sa j0],a7.dQ k2 113 [.cY fw]]) (fun ((rM,sa,j0,w2,rN,sb,j1,w3):(Option Addr) × (Nat) × (List (List UInt8)) × (List Value) × (Option Addr) × (Nat) × (List J.Target) × (List Value))=>[bt.rows iA w2 j0,bt.rows J.ju w3 j1,bt.ii AW [.q nK nW iq],cf (eR .i64) nK nW iq,bt.ii fw [.q fE gQ aM.l,.map (some hq),.q gA g6 aM.dh],cf J.jt fE gQ aM.l,bt.map la (Value.int .i64) hq aM.bY,cf (eR .i64) gA g6 aM.dh]) (fun (J4:z') ((rM,sa,j0,w2,rN,sb,j1,w3):(Option Addr) × (Nat) × (List (List UInt8)) × (List Value) × (Option Addr) × (Nat) × (List J.Target) × (List Value))=>J.vz F aM J4 j0 j1=some aq8) iq (none,0,[],[],none,0,[],[]) 2 3 VN Tryz.call144 af rfl rfl rfl (hm.hN [0,0,2,3,5,6,7,8]) O9 (fun b=>by obtain ⟨_,_,_,_,_,_,_,_⟩:=b;rfl) (fun b=>by obtain ⟨_,_,_,_,_,_,_,_⟩:=b;rfl) ?_ ?_ ?_
 · clear h O9 hm af;intro L aqP eG w a K af cP;refine ny (by kernel_rfl) <| jP 1 [] [(9,.i eG)] af fun a af=>wpList_nil ?_;exact cP _ af.cut
 · clear h O9 hm af;intro L dH dz bB c9 b aqP eG J4 w a K h af hm cP;obtain ⟨rM,sa,j0,w2,rN,sb,j1,w3⟩:=b;dsimp only at h hm;rw [J.vz] at h;obtain ⟨Zt,h,O6⟩:=J.fW h
   refine Tt (fun a w=>∃ (Gx:hU) (G4:Nat) (sY:List (List UInt8)) (Lv:mH) (Gy:hU) (G5:Nat) (sZ:List J.Target) (Lw:mH),Fr ⟨59,[]⟩ [] a/\bn W M0 X w [a7.obj dH dz,a7.obj bB c9,a7.row 9 1 (.q Gx G4 sY) sY Lv,a7.row 166 2 (.q Gy G5 sZ) sZ Lw,a7.dQ jB 121 [.q Gy G5 sZ],a7.dQ g7 120 [.q Gx G4 sY],a7.dQ k2 113 [.cY fw]] [bt.rows iA Lv sY,bt.rows J.ju Lw sZ,bt.ii AW [.q nK nW iq],cf (eR .i64) nK nW iq,bt.ii fw [.q fE gQ aM.l,.map (some hq),.q gA g6 aM.dh],cf J.jt fE gQ aM.l,bt.map la (Value.int .i64) hq aM.bY,cf (eR .i64) gA g6 aM.dh]/\Zt=(sY,sZ)) (fun K Dy=>?_) ?_
   · clear O6;refine lz fun K Dz=>ny (by kernel_rfl) <| qw 5 [0,0,1,0] [(23,.q fE gQ aM.l),(24,.i eG)] [fw,0,k2,0] (gK (jO (hm.e 6 rfl)) (gK (hm.d 4 rfl).2.2 g9)) af fun a af=>?_;obtain ⟨fs,aqH,h⟩:=J.fW h;obtain ⟨aom,apv,_,⟨Gz,G6,lG,nX,rfl,ao9,ao_⟩,ao0⟩:=zx _ (hm.d 5 rfl) aqH;have hm:=hm.more (y:=cf J.iB Gz G6 fs.Fields) ao9;have hm:=hm.more (y:=cf J.oM lG nX fs.bb) ao_;refine nr wn (nF Tryz.underlying25 Tryz.sizeOf134 rfl (af.g rfl) (af.g rfl) aom apv) af rfl rfl fun a af=>?_
     refine qw 4 [0,3] [(27,.q lG nX fs.bb),(28,.i (fs.bb.length:Int)),(29,.i 0)] [di fE,f_ fE+(eG).toNat* 4 + 3] (gK ao0 g9) af fun a af=>wpList_nil (Dz _ _ ?_);obtain ⟨P0,h,O7⟩:=J.fW h
     refine Tt (fun a w=>∃ (GA:hU) (G7:Nat) (s0:List (List UInt8)) (Lx:mH) (GB:hU) (G8:Nat) (s3:List J.Target) (Ly:mH),Fr ⟨59,[]⟩ [] a/\bn W M0 X w [a7.obj dH dz,a7.obj bB c9,a7.row 9 1 (.q GA G7 s0) s0 Lx,a7.row 166 2 (.q GB G8 s3) s3 Ly,a7.dQ jB 121 [.q GB G8 s3],a7.dQ g7 120 [.q GA G7 s0],a7.dQ k2 113 [.cY fw]] [bt.rows iA Lx s0,bt.rows J.ju Ly s3,cf J.oM lG nX fs.bb,cf J.iB Gz G6 fs.Fields,bt.ii AW [.q nK nW iq],cf (eR .i64) nK nW iq,bt.ii fw [.q fE gQ aM.l,.map (some hq),.q gA g6 aM.dh],cf J.jt fE gQ aM.l,bt.map la (Value.int .i64) hq aM.bY,cf (eR .i64) gA g6 aM.dh]/\P0=(s0,s3)) (fun K DA=>?_) ?_
     · clear O7
       refine ade (fun (ez:Nat) a w=>∃ (oS:hU) (o_:Nat) (jq:List (List UInt8)) (Cz:mH) (tS:hU) (uD:Nat) (lb:List J.Target) (Gq:mH) (eE:Int),Fr ⟨59,[]⟩ [(6,.cY g7),(7,.cY jB),(9,.i eG),(27,.q lG nX fs.bb),(28,.i (fs.bb.length:Int)),(29,.i eE)] a/\bn W M0 X w [a7.obj dH dz,a7.obj bB c9,a7.row 9 1 (.q oS o_ jq) jq Cz,a7.row 166 2 (.q tS uD lb) lb Gq,a7.dQ jB 121 [.q tS uD lb],a7.dQ g7 120 [.q oS o_ jq],a7.dQ k2 113 [.cY fw]] [bt.rows iA Cz jq,bt.rows J.ju Gq lb,cf J.oM lG nX fs.bb,cf J.iB Gz G6 fs.Fields,bt.ii AW [.q nK nW iq],cf (eR .i64) nK nW iq,bt.ii fw [.q fE gQ aM.l,.map (some hq),.q gA g6 aM.dh],cf J.jt fE gQ aM.l,bt.map la (Value.int .i64) hq aM.bY,cf (eR .i64) gA g6 aM.dh]/\J.vA F eG fs ez jq lb eE=some P0) F ⟨rM,sa,j0,w2,rN,sb,j1,w3,0,af.cut,hm.hN [2,3,0,1,4,5,6,7,8,9],h⟩ ?_ ?_
       · rintro a w ⟨oS,o_,jq,Cz,tS,uD,lb,Gq,eE,af,hm,h⟩;exact absurd h (by simp [J.vA])
       rintro ez a w ⟨oS,o_,jq,Cz,tS,uD,lb,Gq,eE,af,hm,h⟩ K OB;rw [J.vA] at h;refine lz fun K Dx=>ny (by kernel_rfl) <| jP 1 [] [(30,.bool (decide (eE <(fs.bb.length:Int))))] af fun a af=>wpList_nil (Dx _ _ ?_);refine lz fun K aou=>Tu (af.g rfl) (fun OJ=>?_) (fun OJ=>?_)
       · have h:=J.Mt OJ h;refine KF <| aou _ _ <| lz fun K aov=>?_;obtain ⟨Zu,h,O8⟩:=J.fW h
         refine Tt (fun a w=>∃ (GC:hU) (G9:Nat) (s4:List (List UInt8)) (Lz:mH) (GD:hU) (G_:Nat) (s5:List J.Target) (LA:mH),Fr ⟨59,[]⟩ [(6,.cY g7),(7,.cY jB),(9,.i eG),(27,.q lG nX fs.bb),(28,.i (fs.bb.length:Int)),(29,.i eE)] a/\bn W M0 X w [a7.obj dH dz,a7.obj bB c9,a7.row 9 1 (.q GC G9 s4) s4 Lz,a7.row 166 2 (.q GD G_ s5) s5 LA,a7.dQ jB 121 [.q GD G_ s5],a7.dQ g7 120 [.q GC G9 s4],a7.dQ k2 113 [.cY fw]] [bt.rows iA Lz s4,bt.rows J.ju LA s5,cf J.oM lG nX fs.bb,cf J.iB Gz G6 fs.Fields,bt.ii AW [.q nK nW iq],cf (eR .i64) nK nW iq,bt.ii fw [.q fE gQ aM.l,.map (some hq),.q gA g6 aM.dh],cf J.jt fE gQ aM.l,bt.map la (Value.int .i64) hq aM.bY,cf (eR .i64) gA g6 aM.dh]/\Zu=(s4,s5)) (fun K H2=>?_) ?_
         · clear O8;refine lz fun K aow=>ny (by kernel_rfl) <| jP 1 [] [(31,.i eE)] af fun a af=>?_;obtain ⟨ft,aqI,h⟩:=J.fW h;obtain ⟨aoo,apx,_,⟨LP,Mk,LQ,Ml,rfl,ao',apa⟩,ao2⟩:=zx _ (hm.d 2 rfl) aqI;have hm:=hm.more (y:=cf J.zB LP Mk ft.cr) ao';have hm:=hm.more (y:=cf J.zA LQ Ml ft.cw) apa;refine nr wn (nF Tryz.underlying132 Tryz.sizeOf131 rfl (af.g rfl) (af.g rfl) aoo apx) af rfl rfl fun a af=>?_
           refine qw 1 [0,0] [(33,.agg #[cg ft.Name,.bool ft.Static,.q LP Mk ft.cr,.i ft.Returns.Kind,cg ft.Returns.al,.i ft.g4,.i ft.g2,cg ft.Code,.q LQ Ml ft.cw])] [di lG,f_ lG+(eE).toNat* 9] (gK ao2 g9) af fun a af=>vY (cs:=[cg [],.bool false,.slice none 0 0,.i 0,cg [],.i 0,.i 0,cg [],.slice none 0 0]) wn (w4 Tryz.zeroValue131 rfl rfl) af hm rfl rfl fun a Nx w _ af hm=>jP 1 [] [(10,.i eE)] af fun a af=>?_
           refine tC (vs:=[cg ft.Name,.bool ft.Static,.q LP Mk ft.cr,.i ft.Returns.Kind,cg ft.Returns.al,.i ft.g4,.i ft.g2,cg ft.Code,.q LQ Ml ft.cw]) 0 hm rfl wn rfl Tryz.sizeOf131 rfl rfl rfl rfl (af.g rfl) (af.g rfl) rfl fun w hm=>wpList_nil <| aow _ _ <| lz fun K aox=>ny (by kernel_rfl) <| jP 2 [] [(34,.i eG),(35,.i eE)] af fun a af=>?_
           refine nr wn (aBD (vs:=[(0,.i eG),(1,.i eE)]) (cs:=[.i eG,.i eE]) Tryz.zeroValue166 Tryz.underlying166 aui rfl ⟨⟨(af.g rfl),rfl⟩,⟨(af.g rfl),rfl⟩,trivial⟩ (by kernel_rfl)) af rfl rfl fun a af=>vY (cs:=[.i 0,.i 0]) wn (w4 Tryz.zeroValue166 rfl rfl) af hm rfl rfl fun a Ny w _ af hm=>tC (vs:=[.i eG,.i eE]) 0 hm rfl wn rfl Tryz.sizeOf166 rfl rfl rfl rfl (af.g rfl) (af.g rfl) rfl fun w hm=>wpList_nil ?_
           have af:=af.cut (l':=[(6,.cY g7),(7,.cY jB),(9,.i eG),(11,.cY Nx),(12,.cY Ny),(27,.q lG nX fs.bb),(28,.i (fs.bb.length:Int)),(29,.i eE)]);refine aox _ _ <| lz fun K aoy=>lz fun K aoz=>ny (by kernel_rfl) <| qw 3 [0,0,1,0] [(37,.q oS o_ jq),(39,cg ft.Name)] [Nx,0,g7,0] (gK (jO (hm.e 7 rfl)) (gK (jO (hm.e 1 rfl)) g9)) af fun a af=>?_;obtain ⟨zu,aqd,h⟩:=J.fW h;have hc:=hm;have ak:=hc.freeze 4 2 rfl rfl
           refine Fs (vs:=[.q oS o_ jq,cg ft.Name]) wn rfl Tryz.call117 ⟨(af.g rfl),(af.g rfl),trivial⟩ (als ((ak.into 0).pick ⟨⟨0,rfl⟩,trivial⟩) aqd) af rfl rfl ?_;rintro _ w ⟨rfl,aA⟩;refine ⟨_,rfl,fun a af=>?_⟩;have ag:bp [] _ w:=aA.b6;have hm:=hc.fV 0 (by exact trivial) aA;clear aA hc ak;clear ag;refine jP 1 [] [(13,.i zu)] af fun a af=>wpList_nil (aoz _ _ ?_);refine lz fun K aoA=>ny (by kernel_rfl) <| jP 2 [] [(42,.bool (decide (0 <=zu)))] af fun a af=>wpList_nil (aoA _ _ ?_);refine Tu (af.g rfl) (fun OL=>?_) (fun OL=>?_)
           · have h:=J.Mt OL h;refine lz fun K aoB=>ny (by kernel_rfl) <| qw 3 [0,0,1,0] [(43,.q tS uD lb),(44,.i zu),(45,.agg #[.i eG,.i eE])] [Ny,0,jB,0] (gK (jO (hm.e 6 rfl)) (gK (jO (hm.e 0 rfl)) g9)) af fun a af=>?_;obtain ⟨Un,Zb,h⟩:=J.fW h;obtain ⟨aop,apy,_,rfl,ao3⟩:=aw2 (hm.e 5 rfl) (hm.d 3 rfl) Zb;refine nr wn (nF Tryz.underlying121 Tryz.sizeOf166 rfl (af.g rfl) (af.g rfl) aop apy) af rfl rfl fun a af=>?_;obtain ⟨Qf,apG,h⟩:=J.fW h
             refine axG (T:=J.ju) (d':=(⟨eG,eE⟩:J.Target)) (vs:=[.i eG,.i eE]) (cs0:=[.i Un.al,.i Un.Method]) (kk:=0) 5 3 apG hm rfl rfl Zb rfl ao3 wn rfl Tryz.sizeOf166 rfl rfl rfl rfl rfl (af.g rfl) (af.g rfl) rfl fun aBu w hlen ag hm=>?_;try unfold Value.q at hm;try unfold Value.q at af;rw [hlen] at hm;try rw [hlen] at af;clear hlen;clear ag;refine wpList_nil ?_;have af:=af.cut (l':=[(6,.cY g7),(7,.cY jB),(9,.i eG),(27,.q lG nX fs.bb),(28,.i (fs.bb.length:Int)),(29,.i eE)]);refine aoB _ _ <| Tv <| p9 (Cx ?_)
             exact H2 _ _ ⟨oS,o_,jq,Cz,tS,uD,Qf,aBu,af.cut,hm.rr [2,3,4,5,6,7,8] [3,0,5,6,7,8,9,10,11,12],(os h)⟩
           have h:=J.Ms OL h;refine KF <| aoy _ _ <| adb (m:=11) 8 (bp (Value.q oS o_ jq).ownBlock.toList) (by kernel_rfl) rfl (by kernel_rfl) fun w ag=>?_;have hm:=hm.ff ag;clear ag;have dI:=hm;have ch:=bp.refl (Value.q oS o_ jq).ownBlock.toList w
           refine ea [0,1,2,5,6] 5 [0,0,1,0,2,0,3,0] [(47,.q oS o_ jq),(49,cg ft.Name),(52,.q tS uD lb),(53,.agg #[.i eG,.i eE])] [Ny,0,jB,0,Nx,0,g7,0] (fun fQ ag=>(gK (HD ag (dI.Jw 7 4 rfl rfl (by decide)) (C4 (dI.e 7 rfl)) (jO (dI.e 7 rfl))) (gK (HD ag (dI.Jw 1 4 rfl rfl (by decide)) (C4 (dI.e 1 rfl)) (jO (dI.e 1 rfl))) (gK (HD ag (dI.Jw 6 4 rfl rfl (by decide)) (C4 (dI.e 6 rfl)) (jO (dI.e 6 rfl))) (gK (HD ag (dI.Jw 0 4 rfl rfl (by decide)) (C4 (dI.e 0 rfl)) (jO (dI.e 0 rfl))) g9))))) af ch fun a af=>Vi 3 7 rfl rfl (by kernel_rfl) (fun _=>ch) ?_ ?_
           · refine ES (cs:=[cg ft.Name]) wn (zZ (vs:=[(0,cg ft.Name)]) Tryz.underlying120 Tryz.sizeOf9 Tryz.zeroValue9 rfl rfl rfl ⟨⟨(af.g rfl),rfl⟩,trivial⟩ (by kernel_rfl)) af hm rfl rfl fun a an' w ag DM af hm=>?_;have DM:=Nat.le_trans ch.size DM;have ch:=ch.trans ag (by simp);clear ag;refine jj <| Vi 4 7 rfl rfl (by kernel_rfl) (fun _=>ch) ?_ ?_
             · obtain ⟨IR,apH,h⟩:=J.fW h;refine SV (T:=iA) (ml:=[ft.Name]) 5 0 2 hm rfl rfl rfl Tryz.underlying120 PQ rfl rfl apH rfl rfl ⟨_,_,rfl,rfl,rfl⟩ wn rfl (af.g rfl) (af.g rfl) af rfl rfl fun a UR VG aBv w ag af hm=>?_;have ch:=ch.trans ag (fun x ad=>.inl ad);clear ag;refine jj <| kY 7 rfl (by kernel_rfl) (fun _=>ch) <| ES (cs:=[.i eG,.i eE]) wn (zZ (vs:=[(0,.agg #[.i eG,.i eE])]) Tryz.underlying121 Tryz.sizeOf166 Tryz.zeroValue166 rfl rfl rfl ⟨⟨(af.g rfl),rfl⟩,trivial⟩ (by kernel_rfl)) af hm rfl rfl fun a aCE w ag YD af hm=>?_;have YD:=Nat.le_trans ch.size YD;have ch:=ch.trans ag (by simp);clear ag;refine jj ?_
               refine kY 8 rfl (by kernel_rfl) (fun _=>ch) ?_;obtain ⟨qZ,D0,h⟩:=J.fW h;refine Fq (T:=J.ju) (ml:=[(⟨eG,eE⟩:J.Target)]) 6 0 4 hm rfl rfl rfl Tryz.underlying121 PP rfl rfl D0 rfl rfl ⟨_,_,rfl,rfl,rfl⟩ wn rfl (af.g rfl) (af.g rfl) af rfl rfl fun a tT uE Gr w af hm=>jj ?_;clear dI ch;have dI:=hm;have ch:=bp.refl [] w;refine eS.next 9 (bp [] w) (by kernel_rfl) <| kY 9 rfl (by kernel_rfl) (fun _=>ch) <| tC (vs:=[.q UR VG IR]) 7 hm rfl wn rfl Tryz.sizeOf120 rfl rfl rfl rfl (af.g rfl) (af.g rfl) rfl fun w hm=>jj ?_;clear dI ch;have dI:=hm
               have ch:=bp.refl [] w;refine eS.next 10 (bp [] w) (by kernel_rfl) <| kY 10 rfl (by kernel_rfl) (fun _=>ch) <| tC (vs:=[.q tT uE qZ]) 6 hm rfl wn rfl Tryz.sizeOf121 rfl rfl rfl rfl (af.g rfl) (af.g rfl) rfl fun w hm=>jj ?_;clear dI ch;have dI:=hm;have ch:=bp.refl [] w;refine eS.next 11 (bp [] w) (by kernel_rfl) <| GY (by kernel_rfl) ?_ (fun _=>ch);clear dI ch;have af:=af.cut (l':=[(6,.cY g7),(7,.cY jB),(9,.i eG),(27,.q lG nX fs.bb),(28,.i (fs.bb.length:Int)),(29,.i eE)])
               exact H2 _ _ ⟨UR,VG,IR,aBv,tT,uE,qZ,Gr,af.cut,hm.rr [2,3,4,5,6,7,8] [1,0,6,7,8,9,10,11,12,13],(os h)⟩
             refine ES (cs:=[.i eG,.i eE]) wn (zZ (vs:=[(0,.agg #[.i eG,.i eE])]) Tryz.underlying121 Tryz.sizeOf166 Tryz.zeroValue166 rfl rfl rfl ⟨⟨(af.g rfl),rfl⟩,trivial⟩ (by kernel_rfl)) af hm rfl rfl fun a aoa w ag DN af hm=>?_;have DN:=Nat.le_trans ch.size DN;have ch:=ch.trans ag (by simp);clear ag;refine jj <| kY 4 rfl (by kernel_rfl) (fun _=>ch) ?_;obtain ⟨Ez,Pf,h⟩:=J.fW h;refine SV (T:=iA) (ml:=[ft.Name]) 6 1 2 hm rfl rfl rfl Tryz.underlying120 PQ rfl rfl Pf rfl rfl ⟨_,_,rfl,rfl,rfl⟩ wn rfl (af.g rfl) (af.g rfl) af rfl rfl fun a CH C7 UC w ag af hm=>?_;have ch:=ch.trans ag (fun x ad=>.inl ad);clear ag;refine jj ?_
             refine kY 8 rfl (by kernel_rfl) (fun _=>ch) ?_;obtain ⟨qZ,D0,h⟩:=J.fW h;refine Fq (T:=J.ju) (ml:=[(⟨eG,eE⟩:J.Target)]) 6 0 4 hm rfl rfl rfl Tryz.underlying121 PP rfl rfl D0 rfl rfl ⟨_,_,rfl,rfl,rfl⟩ wn rfl (af.g rfl) (af.g rfl) af rfl rfl fun a tT uE Gr w af hm=>jj ?_;clear dI ch;have dI:=hm;have ch:=bp.refl [] w;refine eS.next 9 (bp [] w) (by kernel_rfl) <| kY 9 rfl (by kernel_rfl) (fun _=>ch) <| tC (vs:=[.q CH C7 Ez]) 7 hm rfl wn rfl Tryz.sizeOf120 rfl rfl rfl rfl (af.g rfl) (af.g rfl) rfl fun w hm=>jj ?_;clear dI ch;have dI:=hm
             have ch:=bp.refl [] w;refine eS.next 10 (bp [] w) (by kernel_rfl) <| kY 10 rfl (by kernel_rfl) (fun _=>ch) <| tC (vs:=[.q tT uE qZ]) 6 hm rfl wn rfl Tryz.sizeOf121 rfl rfl rfl rfl (af.g rfl) (af.g rfl) rfl fun w hm=>jj ?_;clear dI ch;have dI:=hm;have ch:=bp.refl [] w;refine eS.next 11 (bp [] w) (by kernel_rfl) <| GY (by kernel_rfl) ?_ (fun _=>ch);clear dI ch;have af:=af.cut (l':=[(6,.cY g7),(7,.cY jB),(9,.i eG),(27,.q lG nX fs.bb),(28,.i (fs.bb.length:Int)),(29,.i eE)])
             exact H2 _ _ ⟨CH,C7,Ez,UC,tT,uE,qZ,Gr,af.cut,hm.rr [2,3,4,5,6,7,8] [1,0,6,7,8,9,10,11,12,13],(os h)⟩
           refine ES (cs:=[.i eG,.i eE]) wn (zZ (vs:=[(0,.agg #[.i eG,.i eE])]) Tryz.underlying121 Tryz.sizeOf166 Tryz.zeroValue166 rfl rfl rfl ⟨⟨(af.g rfl),rfl⟩,trivial⟩ (by kernel_rfl)) af hm rfl rfl fun a an' w ag DM af hm=>?_;have DM:=Nat.le_trans ch.size DM;have ch:=ch.trans ag (by simp);clear ag;refine jj <| kY 3 rfl (by kernel_rfl) (fun _=>ch) <| ES (cs:=[cg ft.Name]) wn (zZ (vs:=[(0,cg ft.Name)]) Tryz.underlying120 Tryz.sizeOf9 Tryz.zeroValue9 rfl rfl rfl ⟨⟨(af.g rfl),rfl⟩,trivial⟩ (by kernel_rfl)) af hm rfl rfl fun a aoa w ag DN af hm=>?_;have DN:=Nat.le_trans ch.size DN;have ch:=ch.trans ag (by simp);clear ag;refine jj ?_
           refine kY 4 rfl (by kernel_rfl) (fun _=>ch) ?_;obtain ⟨Ez,Pf,h⟩:=J.fW h;refine SV (T:=iA) (ml:=[ft.Name]) 6 0 2 hm rfl rfl rfl Tryz.underlying120 PQ rfl rfl Pf rfl rfl ⟨_,_,rfl,rfl,rfl⟩ wn rfl (af.g rfl) (af.g rfl) af rfl rfl fun a CH C7 UC w ag af hm=>?_;have ch:=ch.trans ag (fun x ad=>.inl ad);clear ag;refine jj <| kY 8 rfl (by kernel_rfl) (fun _=>ch) ?_;obtain ⟨qZ,D0,h⟩:=J.fW h;refine Fq (T:=J.ju) (ml:=[(⟨eG,eE⟩:J.Target)]) 6 0 4 hm rfl rfl rfl Tryz.underlying121 PP rfl rfl D0 rfl rfl ⟨_,_,rfl,rfl,rfl⟩ wn rfl (af.g rfl) (af.g rfl) af rfl rfl fun a tT uE Gr w af hm=>jj ?_
           clear dI ch;have dI:=hm;have ch:=bp.refl [] w;refine eS.next 9 (bp [] w) (by kernel_rfl) <| kY 9 rfl (by kernel_rfl) (fun _=>ch) <| tC (vs:=[.q CH C7 Ez]) 7 hm rfl wn rfl Tryz.sizeOf120 rfl rfl rfl rfl (af.g rfl) (af.g rfl) rfl fun w hm=>jj ?_;clear dI ch;have dI:=hm;have ch:=bp.refl [] w;refine eS.next 10 (bp [] w) (by kernel_rfl) <| kY 10 rfl (by kernel_rfl) (fun _=>ch) <| tC (vs:=[.q tT uE qZ]) 6 hm rfl wn rfl Tryz.sizeOf121 rfl rfl rfl rfl (af.g rfl) (af.g rfl) rfl fun w hm=>jj ?_;clear dI ch
           have dI:=hm;have ch:=bp.refl [] w;refine eS.next 11 (bp [] w) (by kernel_rfl) <| GY (by kernel_rfl) ?_ (fun _=>ch);clear dI ch;have af:=af.cut (l':=[(6,.cY g7),(7,.cY jB),(9,.i eG),(27,.q lG nX fs.bb),(28,.i (fs.bb.length:Int)),(29,.i eE)]);exact H2 _ _ ⟨CH,C7,Ez,UC,tT,uE,qZ,Gr,af.cut,hm.rr [2,3,4,5,6,7,8] [1,0,6,7,8,9,10,11,12,13],(os h)⟩
         rintro a w ⟨GC,G9,s4,Lz,GD,G_,s5,LA,af,hm,aC⟩;subst Zu;have h:=O8;clear O8;dsimp only at h;refine aov _ _ <| ny (by kernel_rfl) <| jP 2 [] [(29,.i (J.aE (eE+ 1)))] af fun a af=>wpList_nil ?_;exact OB _ _ ⟨GC,G9,s4,Lz,GD,G_,s5,LA,J.aE (eE+ 1),af.cut,hm,h⟩
       have h:=J.Ms OJ h;refine Tv <| p9 (p9 (Cx ?_));exact DA _ _ ⟨oS,o_,jq,Cz,tS,uD,lb,Gq,af.cut,hm,(os h)⟩
     rintro a w ⟨GA,G7,s0,Lx,GB,G8,s3,Ly,af,hm,aC⟩;subst P0;have h:=O7;clear O7;dsimp only at h;exact Dy _ _ ⟨GA,G7,s0,Lx,GB,G8,s3,Ly,af.cut,hm.hN [0,1,4,5,6,7,8,9],(os h)⟩
   rintro a w ⟨Gx,G4,sY,Lv,Gy,G5,sZ,Lw,af,hm,aC⟩;subst Zt;have h:=O6;clear O6;dsimp only at h;exact cP (Gx,G4,sY,Lv,Gy,G5,sZ,Lw) _ _ h (hm)
 clear hm af;intro aCF b a w O_ af hm;obtain ⟨rM,sa,j0,w2,rN,sb,j1,w3⟩:=b;dsimp only at O_ hm;rw [J.vz] at O_;obtain rfl:=cV O_;have af:=af.cut (l':=[(6,.cY g7),(7,.cY jB)]);dsimp only at h;refine sk _ _ <| wp_seq_k fun K aoC=>alr (by kernel_rfl) (by kernel_rfl) <| auT 4 [0,0,1,0] [(4,.q rM sa j0),(5,.q rN sb j1)] [jB,0,g7,0] (fun fQ ag=>(gK (AQ ag (jO (hm.e 4 rfl))) (gK (AQ ag (jO (hm.e 3 rfl))) g9))) af fun a af=>wpQuiet_nil fun w ag=>?_;have hm:=hm.ff ag;clear ag;refine aoC _ _ <| wp_ret ?_
 obtain rfl:=cV h;refine asS 0 Tryz.results82 af hm rfl rfl rfl fun w hm=>?_;exact ⟨rM,sa,w2,rN,sb,w3,rfl,hm.rr [1,2] [0,1]⟩
end Go.Proofs.YteeliipnilghaaaGreat
namespace Go.Proofs.YteeliipnilghaaaGreat
open Go Go.RowKit av J bz
section
variable {F:Nat->Prop} {w:World}
theorem ak5 {cs:List Value} {d:J.Kind} (h:(bO.ty 128).rd F w cs d):J.zB.rd F w cs d:=by
 change eV (fun t=>(fG Hw t).ty) F w [.i .i64,.s] cs (d.Kind,d.al,()) at h
 obtain ⟨_,_,rfl,rfl,_,_,rfl,rfl,rfl⟩:=h
 rfl
theorem ak4 {cs:List Value} {d:J.Handler} (h:(bO.ty 157).rd F w cs d):J.zA.rd F w cs d:=by
 change eV (fun t=>(fG Hu t).ty) F w [.i .i64,.i .i64,.i .i64,.s] cs (d.From,d.To,d.hS,d.al,()) at h
 obtain ⟨_,_,rfl,rfl,_,_,rfl,rfl,_,_,rfl,rfl,_,_,rfl,rfl,rfl⟩:=h
 rfl
theorem ak3 {cs:List Value} {d:J.Field} (h:(bO.ty 136).rd F w cs d):J.iB.rd F w cs d:=by
 change eV (fun t=>(fG Dc t).ty) F w [.s,.i .i64,.s] cs (d.Name,d.Kind.Kind,d.Kind.al,()) at h
 obtain ⟨_,_,rfl,rfl,_,_,rfl,rfl,_,_,rfl,rfl,rfl⟩:=h
 rfl
theorem ak6 {cs:List Value} {d:J.Method} (h:(bO.ty 131).rd F w cs d):J.oM.rd F w cs d:=by
 change eV (fun t=>(fG Hx t).ty) F w [.s,.b,.l 128,.i .i64,.s,.i .i64,.i .i64,.s,.l 157] cs (d.Name,d.Static,d.cr,d.Returns.Kind,d.Returns.al,d.g4,d.g2,d.Code,d.cw,()) at h
 obtain ⟨_,_,rfl,rfl,_,_,rfl,rfl,_,_,rfl,I,_,_,rfl,rfl,_,_,rfl,rfl,_,_,rfl,rfl,_,_,rfl,rfl,_,_,rfl,rfl,_,_,rfl,aa,rfl⟩:=h
 have I:(bZ (bO.ty 128)).rd F w [_] d.cr:=I
 have aa:(bZ (bO.ty 157)).rd F w [_] d.cw:=aa
 obtain ⟨A,c,rfl⟩:=kJ _ I
 obtain ⟨cN,bC,rfl⟩:=kJ _ aa
 exact ⟨A,c,cN,bC,rfl,iy (fun _ _=>ak5) I,iy (fun _ _=>ak4) aa⟩
theorem ak2 {cs:List Value} {d:J.al} (h:(bO.ty 134).rd F w cs d):J.jt.rd F w cs d:=by
 change eV (fun t=>(fG Hv t).ty) F w [.s,.s,.l 136,.l 131] cs (d.Name,d.cO,d.Fields,d.bb,()) at h
 obtain ⟨_,_,rfl,rfl,_,_,rfl,rfl,_,_,rfl,I,_,_,rfl,aa,rfl⟩:=h
 have I:(bZ (bO.ty 136)).rd F w [_] d.Fields:=I
 have aa:(bZ (bO.ty 131)).rd F w [_] d.bb:=aa
 obtain ⟨A,c,rfl⟩:=kJ _ I
 obtain ⟨cN,bC,rfl⟩:=kJ _ aa
 exact ⟨A,c,cN,bC,rfl,iy (fun _ _=>ak3) I,iy (fun _ _=>ak6) aa⟩
theorem VD {cs:List Value} {d:Int} (h:(bO.ty 3).rd F w cs d):cs= [.int .i64 d]:=by
 change eV (fun t=>(fG Hy t).ty) F w [.i .i64] cs (d,()) at h
 obtain ⟨_,_,rfl,rfl,rfl⟩:=h
 rfl
theorem awe {F':Nat->Prop} {cs:List Value} {d:J.Field} (h:J.iB.rd F w cs d):(bO.ty 136).rd F' w cs d:=by
 change cs=_ at h
 subst h
 change eV (fun t=>(fG Dc t).ty) F' w [.s,.i .i64,.s] _ (d.Name,d.Kind.Kind,d.Kind.al,())
 exact ⟨_,_,rfl,rfl,_,_,rfl,rfl,_,_,rfl,rfl,rfl⟩
theorem awg {F':Nat->Prop} {cs:List Value} {d:J.Target} (h:J.ju.rd F w cs d):(bO.ty 166).rd F' w cs d:=by
 change cs=_ at h
 subst h
 change eV (fun t=>(fG Hz t).ty) F' w [.i .i64,.i .i64] _ (d.al,d.Method,())
 exact ⟨_,_,rfl,rfl,_,_,rfl,rfl,rfl⟩
theorem awf {F':Nat->Prop} {cs:List Value} {d:List UInt8} (h:iA.rd F w cs d):(bO.ty 9).rd F' w cs d:=by
 change cs=_ at h
 subst h
 change eV (fun t=>(fG HA t).ty) F' w [.s] _ (d,())
 exact ⟨_,_,rfl,rfl,rfl⟩
theorem am8 {es:List MapEntry} {d:List (List UInt8 × Int)} (h: @jx bO F w 9 3 Ew es d):LV la (Value.int .i64) es d:=by
 induction es generalizing d with
 | nil=>cases d with
   | nil=>rfl
   | cons p d=>exact h.elim
 | cons e es ba=>cases d with
   | nil=>exact h.elim
   | cons p d=>
     obtain ⟨I,⟨xs,aa,aq⟩,a'⟩:=h
     have aa:=VD aa
     subst aa
     have:=ba a'
     unfold LV at this ⊢
     rw [List.map_cons,List.map_cons,this]
     rw [show e.val= .int .i64 p.2 from aq,show e.key=la.enc p.1 from I]
abbrev vD (cs:List J.al) (bY:List (List UInt8 × Int)) (iz:List Int):List (aF bO.El):=[.c 117 [.s 134 (cs:List (bO.El 134)),.m 1,.s 3 (iz:List (bO.El 3))],.m 9 3 (bY:List (bO.El 9 × bO.El 3))]
theorem ZU {W:World} {M0:List Nat} {X:Nat->Prop} {ρ vs:List Value} {cs:List J.al} {bY:List (List UInt8 × Int)} {iz:List Int} {n:Int}
 (hm:Mem bO W M0 X (vD cs bY iz) ρ w) (ag:a3 bO (bi X (vD cs bY iz) ρ w) w ρ (vD cs bY iz) [.b 0 0,.p (.int .i64 n)] vs) :
 ∃ g A c r cN bC,vs= [.pointer (some ⟨g,0,none⟩),.int .i64 n]/\bn w [] [] w [] [bt.ii g [.slice A cs.length c,.map (some r),.slice cN iz.length bC],cf J.jt A c cs,bt.map la (Value.int .i64) r bY,cf (eR .i64) cN bC iz]:=by
 have ak:=hm.len
 obtain ⟨aN,Ba⟩:=hm.Bp (i:=0) rfl
 obtain ⟨I,YH⟩:=hm.Bp (i:=1) rfl
 have b0:=hm.ok 0 _ _ rfl Ba
 have bX:=hm.ok 1 _ _ rfl YH
 obtain ⟨g,us,rfl,aw,hu⟩:=b0
 obtain ⟨r,rfl,K,cP,es,gG,ay,he,aD,ah⟩:=bX
 simp only [a3,au] at hu ag
 obtain ⟨u1,_,rfl,Bh,u2,_,rfl,⟨h3,kt,rfl⟩,u3,_,rfl,Y7,rfl⟩:=hu
 obtain ⟨_,_,rfl,⟨g',fC,rfl⟩,_,_,rfl,rfl,rfl⟩:=ag
 rw [Ba] at fC
 rw [YH] at kt
 cases fC
 cases kt
 obtain ⟨A,c,rfl⟩:=kJ _ Bh
 obtain ⟨cN,bC,rfl⟩:=kJ _ Y7
 have az:∀ k,bi X (vD cs bY iz) ρ w k->hF [] w k/\w.heap[k]? =w.heap[k]? :=fun k ai=>⟨⟨by simp,ai.2.2⟩,rfl⟩
 have aqw:(cf J.jt A c cs).ok [] w:=iy (fun _ _=>ak2) ((bZ (bO.ty 134)).law az Bh)
 have aqy:(cf (eR .i64) cN bC iz).ok [] w:=iy (fun _ _=>VD) ((bZ (bO.ty 3)).law az Y7)
 have bs:∀ k b,w.heap[k]? =some b->k <w.heap.size:=fun k b ai=>by
  rcases Nat.lt_or_ge k w.heap.size with h | h
  · exact h
  · rw [Array.getElem?_eq_none h] at ai;cases ai
 obtain rfl:Ew=K:=Option.some.inj cP
 refine ⟨g,A,c,r,cN,bC,rfl,bn.start [] [] w [] _ (by simp) (by simp [b4]) (by simp) (by simp [b4]) fun y hy=>?_⟩
 simp only [List.mem_cons,List.not_mem_nil,or_false] at hy
 rcases hy with rfl | rfl | rfl | rfl
 · exact ⟨by simp [b4],bs _ _ aw,jO (t:=117) (cs:=[.slice A cs.length c,.map (some r),.slice cN iz.length bC]) aw⟩
 · exact aqw
 · exact ⟨by simp [b4],bs _ _ ay,es,gG,ay,am8 he,aD,ah⟩
 · exact aqy
end
theorem amb (F:Nat):(Zw F).ho.GI aR 83 :=by
 intro ax aB lm h W M0 X ρ w vs hm ag
 obtain ⟨⟨⟩,n,⟨⟩⟩:=ax
 obtain ⟨⟨cs,⟨⟩,iz,⟨⟩⟩,bY,⟨⟩⟩:=aB
 have h:Option.map _ (J.q2 F ⟨cs,bY,iz⟩ n)=some lm:=h
 obtain ⟨r,ay,rfl⟩:=Option.map_eq_some_iff.1 h
 have hm:Mem bO W M0 X (vD cs bY iz) ρ w:=hm
 obtain ⟨g,A,c,q,cN,bC,rfl,ao⟩:=ZU hm ag
 refine ⟨⟨.ret (.r 2 0),vD cs bY iz++[.r 136 0 0 (r:List (bO.El 136))],[]⟩,by kernel_rfl,?_⟩
 refine (alp ao ay).mono fun e w' ⟨dW,c1,xs,he,b'⟩=>?_
 obtain ⟨bf,bh⟩:=hm.axJ b' (t:=136) rfl fun _ _ _ ad _=>awe ad
 refine ⟨_,bf,bh,fun k ai _=>b'.b6.block k ai (by simp),?_⟩
 subst he
 have ak:ρ.length= 2 :=hm.len
 exact ⟨trivial,_,by rw [List.getElem?_append_right (by omega),ak];rfl,Nat.le_refl _,fun _=>rfl⟩
theorem amc (F:Nat):(Zx F).ho.GI aR 82 :=by
 intro ax aB lm h W M0 X ρ w vs hm ag
 obtain ⟨⟨⟩,n,⟨⟩⟩:=ax
 obtain ⟨⟨cs,⟨⟩,iz,⟨⟩⟩,bY,⟨⟩⟩:=aB
 have h:Option.map _ (J.y8 F ⟨cs,bY,iz⟩ n)=some lm:=h
 obtain ⟨r,ay,rfl⟩:=Option.map_eq_some_iff.1 h
 have hm:Mem bO W M0 X (vD cs bY iz) ρ w:=hm
 obtain ⟨g,A,c,q,cN,bC,rfl,ao⟩:=ZU hm ag
 refine ⟨⟨.ret (.u [.r 2 0,.r 3 0]),vD cs bY iz++[.r 9 0 0 (r.1 :List (bO.El 9)),.r 166 0 0 (r.2 :List (bO.El 166))],[]⟩,by kernel_rfl,?_⟩
 refine (alq ao ay).mono fun e w' ⟨dW,c1,xs,cZ,c2,ys,he,b'⟩=>?_
 obtain ⟨bf,bh⟩:=hm.axK b' (t:=9) (t':=166) rfl (fun _ _ _ ad _=>awf ad) rfl fun _ _ _ ad _=>awg ad
 refine ⟨_,bf,bh,fun k ai _=>b'.b6.block k ai (by simp),?_⟩
 subst he
 have ak:ρ.length= 2 :=hm.len
 refine ⟨_,rfl,_,_,rfl,⟨trivial,_,by rw [List.getElem?_append_right (by omega),ak];rfl,Nat.le_refl _,fun _=>rfl⟩,_,_,rfl,⟨trivial,_,by rw [List.getElem?_append_right (by omega),ak];rfl,Nat.le_refl _,fun _=>rfl⟩,rfl⟩
theorem akW:h8.dl:=⟨⟨fun g h e=>(by cases e),fun g h e=>(by cases e)⟩,fun g fn c _ _ _=>s7 (fun _=>rfl) c⟩
theorem alg (F:Nat):(GF F).dl:=
 ((atZ pc (atY pc (atX pc (atW pc (atV pc akW))))).qq (f:=82) (by kernel_rfl) fun ys bl r aj=>Hk (amc F) ys bl r (zw aj)).qq (f:=83) (by kernel_rfl) fun ys bl r aj=>Hk (amb F) ys bl r (zw aj)
end Go.Proofs.YteeliipnilghaaaGreat
namespace bz
open Go Go.RowKit av J
section
variable {El:Nat->Type}
def Mh (bl:List (aF El)):aI El->Option (aI El)
 | .p u=>some (.p u)
 | .s t l=>some (.s t l)
 | .q t l=>some (.s t l)
 | .r i g=>match nth bl i with
   | some (.r t bB _ l)=>match Nat.beq g bB with
     | true=>some (.s t l)
     | false=>none
   | _=>none
 | _=>none
def C5 (bl:List (aF El)):List (aI El)->Option (List (aI El))
 | []=>some []
 | y::r=>match Mh bl y,C5 bl r with
   | some fz,some h3=>some (fz::h3)
   | _,_=>none
def Zr:List (aI El)->Bool
 | []=>false
 | .r _ _::_=>true
 | _::r=>Zr r
def Mi (g:List (aI El)->List (aF El)->D (fu El)) (ys:List (aI El)) (bl:List (aF El)):D (fu El):=match Zr ys,C5 bl ys with
 | true,some dP=>(g dP []).bind fun r=>match r.e with
   | .ret (.p u)=>.ok ⟨.ret (.p u),bl,[]⟩
   | _=>.no
 | _,_=>g ys bl
end
section
variable {T:b3} {W w:World} {M0:List Nat} {X:Nat->Prop} {bl:List (aF T.El)} {ρ:List Value}
theorem ak1 (hm:Mem T W M0 X bl ρ w) {y fz:aI T.El} {v:Value} (h:Mh bl y=some fz) (ag:au T (bi X bl ρ w) w ρ bl y v):au T (bi (fun _=>False) ([]:List (aF T.El)) [] w) w [] [] fz v:=by
 have az:∀ {b:List (aF T.El)} {k:Nat},bi X b ρ w k->bi (fun _=>False) ([]:List (aF T.El)) [] w k/\w.heap[k]? =w.heap[k]? :=fun ai=>⟨⟨fun h=>h,fun ⟨i,B,u,I,aa,_⟩=>by simp at aa,ai.2.2⟩,rfl⟩
 unfold Mh at h
 split at h
 · cases h;simp only [au] at ag ⊢;exact ag
 · cases h;simp only [au] at ag ⊢;exact (bZ _).law (fun k=>az) ag
 · cases h;simp only [au] at ag ⊢;exact (bZ _).law (fun k=>az) ag.1
 · rename_i i g
   split at h
   · rename_i t bB k l hi
     rw [cU] at hi
     split at h
     · rename_i ah
       have ah:=Nat.eq_of_beq_eq_true ah
       cases h
       simp only [au] at ag ⊢
       obtain ⟨_,u,I,_,aq⟩:=ag
       rw [hi] at aq
       obtain rfl:=aq ah
       have aj:=(hm.freeze hi).1.ok i (.z t bB k l) _ (List.getElem?_set_self (List.getElem?_eq_some_iff.1 hi).1) I
       exact (bZ (T.ty t)).law (fun k=>az) (aj:(bZ (T.ty t)).rd _ w [_] l)
     · cases h
   · cases h
 · cases h
theorem VC (hm:Mem T W M0 X bl ρ w):∀ {ys dP:List (aI T.El)} {vs:List Value},C5 bl ys=some dP->a3 T (bi X bl ρ w) w ρ bl ys vs->a3 T (bi (fun _=>False) ([]:List (aF T.El)) [] w) w [] [] dP vs
 | [],dP,vs,h,ag=>by
   simp only [C5,Option.some.injEq] at h
   subst h
   simpa only [a3] using ag
 | y::r,dP,vs,h,ag=>by
   simp only [C5] at h
   split at h
   · rename_i dk b9 I aa
     cases h
     simp only [a3] at ag ⊢
     obtain ⟨u,us,e,bf,bh⟩:=ag
     exact ⟨u,us,e,ak1 hm I bf,VC hm aa bh⟩
   · cases h
end
section
variable {E:Env} {f:Nat} {t:dy E}
theorem alF (eU:E.dR= []) {g:List (aI E.T.El)->List (aF E.T.El)->D (fu E.T.El)} (hc:kO E f g):kO E f (Mi g):=by
 intro ys bl r aj W M0 X ρ w vs hm aw ag
 unfold Mi at aj
 split at aj
 · rename_i dP _ ah
   obtain ⟨fO,aN,I⟩:=D.j4 aj
   split at I
   · rename_i u hu
     have I:(⟨.ret (.p u),bl,[]⟩:fu E.T.El)=r:=I
     subst I
     refine (hc dP [] fO aN w [] (fun _=>False) [] w vs (Z2 w) (fun g y aw=>by rw [eU] at aw;simp [ev] at aw) (VC hm ah ag)).mono fun e w' ⟨ρ',dV,_,_,ay⟩=>?_
     refine ⟨ρ,hm.ff dV.b6,Mem.Ca dV.b6,fun k ai _=>dV.b6.block k ai (by simp),?_⟩
     rw [hu] at ay
     cases e with
     | returned v=>
       simp only [Ao,au] at ay ⊢
       exact ay
     | panicked uG=>exact ay.elim
     | outgrown=>exact ay.elim
   · exact I.elim
 · exact hc ys bl r aj W M0 X ρ w vs hm aw ag
noncomputable def dy.qA (t:dy E) (f:Nat):dy E:=t.f f (Mi (t.bD f))
theorem dy.dl.qA (a5:dn E) (eU:E.dR= []) (h:t.dl) {f:Nat} (af:fy E.cq f=true):(t.qA f).dl:=
 h.qq af (alF eU fun ys bl r aj=>((n2 a5 h.ce h.le 100).ok f ys bl r aj).2)
end
end bz
namespace bz
open Go Go.RowKit av J
structure aT (E:Env) where
 t:dy E
 ok:dn E->t.dl
 dR:E.dR= []
section
variable {E:Env}
noncomputable def aT.rt (s:aT E) (f:Nat) (c:ib E.T) (he:c.Eq E s.t.bD s.t.LE f) (af:fy E.cq f=true:=by kernel_rfl):aT E:=⟨s.t.f f (c.run E),fun h=>(s.ok h).rt h s.dR af he,s.dR⟩
noncomputable def aT.yc (s:aT E) (f:Nat) (c:ib E.T) (he:c.Eq E s.t.bD s.t.LE f) (af:fy E.cq f=true:=by kernel_rfl):aT E:=⟨s.t.yc f c,fun h=>(s.ok h).anZ h s.dR af he,s.dR⟩
noncomputable def aT.J9 (s:aT E) (f:Nat) (c:o3 E.T) (he:c.Eq E s.t.bD s.t.LE f) (af:fy E.cq f=true:=by kernel_rfl):aT E:=⟨s.t.f f (c.run E),fun h=>(s.ok h).J9 h s.dR af he,s.dR⟩
noncomputable def aT.fn (s:aT E) (f:Nat) (c:fA E.T) (he:c.Eq E s.t.bD s.t.LE f) (af:fy E.cq f=true:=by kernel_rfl):aT E:=⟨s.t.f f (c.run E),fun h=>(s.ok h).fn h s.dR af he,s.dR⟩
noncomputable def aT.iO (s:aT E) (f:Nat) (c:jL E.T) (he:c.Eq E s.t.bD s.t.LE f) (af:fy E.cq f=true:=by kernel_rfl):aT E:=⟨s.t.f f (c.run E),fun h=>(s.ok h).iO h s.dR af he,s.dR⟩
noncomputable def aT.qA (s:aT E) (f:Nat) (af:fy E.cq f=true:=by kernel_rfl):aT E:=⟨s.t.qA f,fun h=>(s.ok h).qA h s.dR af,s.dR⟩
noncomputable def aT.add (s:aT E) (f:Nat) (r:List (aI E.T.El)->List (aF E.T.El)->D (fu E.T.El)) (hc:kO E f r) (af:fy E.cq f=true:=by kernel_rfl):aT E:=⟨s.t.f f r,fun h=>(s.ok h).qq af hc,s.dR⟩
noncomputable def aT.bT (s:aT E) (g i F:Nat) (c:bI E.T) (he:c.q0.lH E s.t.bD (s.t.LE g) (lk E.P g) i (lN E.P g i)) (I:pU E.P g i=true:=by kernel_rfl):aT E:=⟨s.t.l g i (c.run E F),fun h=>(s.ok h).bT h s.dR I he F,s.dR⟩
noncomputable def aT.EJ (s:aT E) (g i F:Nat) (c:bI E.T) (he:c.q0.lH E s.t.bD (s.t.LE g) (lk E.P g) i (lN E.P g i)) (I:pU E.P g i=true:=by kernel_rfl):aT E:=⟨s.t.EJ g i c F,fun h=>(s.ok h).asL h s.dR I he F,s.dR⟩
noncomputable def aT.j2 (s:aT E) (g i F:Nat) (c:h9 E.T) (he:c.Eq E s.t.bD (s.t.LE g) (lk E.P g) i (lN E.P g i)) (I:pU E.P g i=true:=by kernel_rfl):aT E:=⟨s.t.l g i (c.run E F),fun h=>(s.ok h).j2 h s.dR I he F,s.dR⟩
end
end bz
