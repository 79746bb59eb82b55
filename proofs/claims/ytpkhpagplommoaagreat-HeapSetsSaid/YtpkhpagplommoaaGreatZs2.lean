/- Part 2 of the proof that is ended in the last text: small logic, what the functions compute, walks, plain laws. -/
import Derived.Test.YtpkhpagplommoaaGreatZs1
import Derived.ArgAppend
import Derived.KernelRfl
import Derived.Test.YtpkhpagplommoaaGreatChecked
namespace a2
open Go Go.RowKit J
section
variable {P:Program} {W w aF:World} {M0 X:List Nat} {E:List ap} {D:List ak} {n:ha} {l:List (Nat × Value)} {a:Act} {o:Oper} {ops:Array Oper} {rest:List Oper} {Q:Exit->Act->World->Prop} {d:Nat}
theorem aHH {A:Option Addr} {m c sz:Nat} {t e:TypeId} {j:Int} (bP:P.underlying t=some (.slice e)) (a6:∀ w,(Go.sizeOf e).run P w= .ok sz w) (h:0 <=j/\j<=c) :
 (Instr.slice t (.slice A m c) none (some (.int .i64 j)) (some (.int .i64 j))).run P w= .ok (.slice (if j.toNat= 0 then A else A.map (·.add (0 *sz))) j.toNat j.toNat) w:=by
 have ox:∀ code,(Instr.sliceBound (.int .i64 j) c code).run P w= .ok j.toNat w:=fun code=>I0 rfl (by omega)
 have k_:∀ code,(Instr.sliceBound (.int .i64 j) j.toNat code).run P w= .ok j.toNat w:=fun code=>I0 rfl (by omega)
 have aY:(Instr.sliceBounds true m c none (some (.int .i64 j)) (some (.int .i64 j))).run P w= .ok (0,j.toNat,j.toNat) w:=by
  simp [Instr.sliceBounds,ox,k_]
 simp [Instr.slice,run_underlying bP,aY,a6]
theorem akS {α:Type} {T:fc α} {c:Nat} {A:Option Addr} {li r:List α} {j:Int} {M:List Nat} {w:World} (b0:(ak.of (aH T) [.slice A li.length c] li).ok M w) (bQ:cut li 0 j=some r) :
 ∃ g',(ak.of (aH T) [.slice g' r.length r.length] r).ok M w/\ ∀ {P:Program} {o:Oper} {a:Act} {t e:TypeId} {x hi Xu:Operand},P.underlying t=some (.slice e)->(∀ w,(Go.sizeOf e).run P w= .ok T.size w)->o.op= .slice t x none (some hi) (some Xu)->a.eval x= .slice A li.length c ->
   a.eval hi= .int .i64 j->a.eval Xu= .int .i64 j-> ∀ w,cf P o a w (.slice g' r.length r.length) w:=by
 obtain ⟨aB,aR⟩:=Rh b0 bQ
 obtain ⟨bJ,alR,aLa⟩:=(Lw bQ).1
 obtain ⟨fZ,d_,bL,b8,_⟩:=(b0:(aH T).rd _ w [.slice A li.length c] li)
 simp only [List.cons.injEq,Value.slice.injEq,and_true,true_and] at bL
 obtain ⟨rfl,rfl⟩:=bL
 have bb:j.toNat=r.length:=by simpa using aR
 obtain ⟨f_,eb,f1,f2,f3,f4,f5⟩:=(aB:(aH T).rd _ w _ r)
 simp only [List.cons.injEq,Value.slice.injEq,and_true] at f1
 obtain ⟨f1,_,f6⟩:=f1
 refine ⟨if j.toNat= 0 then A else A.map (·.add (0 *T.size)),?_,fun {P o a t e x hi Xu} bP a6 br aj oT aAk w=>?_⟩
 · refine ⟨_,_,rfl,Nat.le_refl _,by omega,fun gf=>?_,fun eN=>?_⟩
   · by_cases h:j.toNat= 0
     · omega
     · rw [if_neg h] at gf
       have:A=none:=by cases A with
        | none=>rfl
        | some b7=>cases gf
       subst this
       have:=f4 (by rw [<-f1];simp)
       omega
   · have Dj:0 <r.length:=List.length_pos_iff.2 eN
     obtain ⟨iH,jL,mD⟩:=f5 eN
     have e:(if c=(0 :Int).toNat then A else A.map (·.add ((0 :Int).toNat*T.size)))=(if j.toNat= 0 then A else A.map (·.add (0 *T.size))):=by
      rw [if_neg (by simp;omega),if_neg (by omega)];rfl
     rw [<-e,f1]
     exact ⟨iH,jL,mD⟩
 · have iu:=aHH (P:=P) (w:=w) (A:=A) (m:=li.length) (c:=c) (j:=j) bP a6 ⟨alR,by omega⟩
   rw [bb] at iu
   rw [bb]
   simp only [cf,execOp,br,aj,Instr.sliceAt,Sem.run_bind,run_underlying bP,Result.andThen_ok,Option.map_none,Option.map_some,oT,aAk,iu]
   try rfl
theorem aHQ {α:Type} {T:fc α} {t e:TypeId} {x y:Operand} {z:Value} {bytes c:Nat} {li ml l':List α} {A ik:Option Addr} (p q:Nat) (hm:aw W M0 X w E D) (b0:D[p]? =some (ak.of (aH T) [.slice A li.length li.length] li)) (ea:D[q]? =some (ak.of (aH T) [.slice ik ml.length c] ml))
 (iJ:P.underlying t=some (.slice e)) (kr:(P.info? e).map (fun i=>(i.zero,i.size,i.bytes))=some (some z,T.size,bytes)) (cV:z.cells.size=T.size) (iv:Nat.blt 0 T.size=true)
 (bQ:dU bytes li ml=some l') (eN:(!ml.isEmpty)=true) (i':Nat.blt 0 bytes=true)
 (hw:Region.wanted o (yielded ops a.tmps)=true)
 (br:o.op= .call { callee:=.builtin .append,args:=#[x,y],argTypes:=#[t,t] }) (aj:a.eval x= .slice A li.length li.length) (hy:a.eval y= .slice ik ml.length c) (I:Fr n l a) (bZ:o.dst=some d) (af:Nat.blt d n=true)
 (k:∀ bM g' dF ft aF,a7 [] w aF->Fr n ((d,.slice g' l'.length dF)::l) bM->aw W M0 X aF (ap.row e T.size (.slice g' l'.length dF) l' ft::E) (ak.rows T ft l'::D)->wpList P ops Q rest bM aF):wpList P ops Q (o::rest) a w:=by
 obtain ⟨i0,Ar,yd,Dl,C0⟩:=Vv kr
 obtain ⟨z8,rfl⟩:=QA bQ
 have iv:=Nat.le_of_ble_eq_true iv
 have i':=Nat.le_of_ble_eq_true i'
 have rn:ml≠ []:=by rintro rfl;simp at eN
 have Dj:0 <ml.length:=List.length_pos_iff.2 rn
 obtain ⟨fZ,d_,bL,b8,dR,fT,jw⟩:=(hm.d p b0:(aH T).rd (hK (X++cQ E) w) w _ li)
 simp only [List.cons.injEq,Value.slice.injEq,and_true,true_and] at bL
 obtain ⟨rfl,rfl⟩:=bL
 obtain ⟨f_,eb,f1,f2,f3,f4,f5⟩:=(hm.d q ea:(aH T).rd (hK (X++cQ E) w) w _ ml)
 simp only [List.cons.injEq,Value.slice.injEq,and_true,true_and] at f1
 obtain ⟨rfl,rfl⟩:=f1
 obtain ⟨iH,jL,cs,mD,uc⟩:=f5 rn
 rw [iH] at hy
 have lk:∀ j u,cs[j]? =some u->w.cell? ((⟨bG ik,bH ik,none⟩:Addr).add j)=some u:=fun j u hu=>by rw [ov];exact uc j u hu
 have Hp:li.length+ml.length<=maxLen:=by
  have aR:=Nat.le_mul_of_pos_right (li.length+ml.length) i'
  simp only [maxLen]
  omega
 have iu:∃ iR aF xs,(Builtin.append_ #[t,t] o.type #[.slice A li.length li.length,.slice (some ⟨bG ik,bH ik,none⟩) ml.length c]).run P w= .ok iR aF/\aF.ownsRow w.heap.size e T.size iR (li.length+ml.length) (xs++cs)/\w.grownBy aF none/\fP T (hK (X++cQ E) w) w xs li:=by
  by_cases az:li= []
  · subst az
    cases A with
    | none=>
      obtain ⟨iR,aF,iu,aR,bT,_,hL⟩:=run_append_own_at (P:=P) w w.heap.size t o.type e i0 z T.size bytes iJ Ar yd Dl C0 cV iv (.slice none 0 0) 0 [] ⟨by simp,.inl ⟨rfl,rfl⟩⟩ ⟨bG ik,bH ik,none⟩ ml.length c cs (A9 T mD)
       lk (YB T mD) (by simpa using Hp) (by simpa using z8) (Nat.le_refl _)
      exact ⟨iR,aF,[],iu,by simpa using aR,bT,rfl⟩
    | some b=>
      obtain ⟨iR,aF,iu,aR,bT⟩:=run_append_arg_grows (P:=P) w t o.type e i0 z T.size bytes iJ Ar yd Dl C0 cV iv b 0 0 [] (by simp) (fun j u hu=>by simp at hu) ⟨bG ik,bH ik,none⟩ ml.length c cs (A9 T mD) lk (by omega) (by simpa using Hp) (by simpa using z8)
      exact ⟨iR,aF,[],iu,by simpa using aR,bT,rfl⟩
  · obtain ⟨iL,kO,xs,l2,uO⟩:=jw az
    obtain ⟨iR,aF,iu,aR,bT⟩:=run_append_arg_grows (P:=P) w t o.type e i0 z T.size bytes iJ Ar yd Dl C0 cV iv ⟨bG A,bH A,none⟩ li.length li.length xs (A9 T l2) (fun j u hu=>by rw [ov];exact uO j u hu) ⟨bG ik,bH ik,none⟩ ml.length c cs (A9 T mD) lk (by omega) Hp z8
    rw [<-iL] at iu
    exact ⟨iR,aF,xs,iu,aR,bT,l2⟩
 obtain ⟨iR,aF,xs,iu,aR,bT,l2⟩:=iu
 have ku:(ap.row e T.size iR (li++ml) (xs++cs)).ok aF:=by
  show aF.ownsRow 0 e T.size iR (li++ml).length (xs++cs)
  rw [List.length_append]
  refine ⟨aR.1,aR.2.imp id fun ⟨g,cap,cur,hH,_,nX⟩=>⟨g,cap,cur,hH,Nat.zero_le _,nX⟩⟩
 obtain ⟨g',dF,rfl,_⟩:=NL ku
 have AK:cf P o a w (.slice g' (li++ml).length dF) aF:=by
  simp only [cf,execOp,br,resolve,invoke,builtin,Sem.run_bind,Sem.run_pure,Result.andThen_ok,List.map_toArray,List.map_cons,List.map_nil,aj,hy,iu]
 have mV:=hm.D1 (Yx T mD l2)
 refine bU hw AK I bZ af fun bM eX=>k bM g' dF (xs++cs) aF (a7.grown bT) eX (mV.push _ (a7.grown bT) ku (fun q ea=>?_) (M' _))
 have sI:(Value.slice g' (li++ml).length dF).ownBlock=some q:=by simpa [ap.row] using ea
 rcases aR.2 with ⟨ad,_⟩ | ⟨Rv,cap,cur,ad,aY,uD,_⟩
 · rw [ad] at sI;simp [Value.ownBlock] at sI
 · rw [ad] at sI
   have:Rv=q:=by simpa [Value.ownBlock] using sI
   subst this
   exact ⟨aY,(Array.getElem?_eq_some_iff.1 uD).1⟩
end
end a2
namespace Go.Value
abbrev q {α:Type} (A:Option Addr) (c:Nat) (l:List α):Value:=.slice A l.length c
end Go.Value
namespace a2
open Go Go.RowKit J
abbrev aT:=Option Addr
abbrev dD:=List Value
abbrev eI:=List Int
theorem wn {ops:Array Oper} {a:Act} {o:Oper} (di:o.guard=none:=by rfl):Region.wanted o (yielded ops a.tmps)=true:=D_ di
section
variable {W w:World} {M0 X:List Nat} {E lL:List ap} {D hj:List ak} {n:ha} {l l' new b5 jx:List (Nat × Value)} {a:Act}
theorem Fr.cut (I:Fr n l a) (h:CN l (l'.map (·.1))=some l':=by kernel_rfl):Fr n l' a:=I.sub (Rg h)
def D3 (D:List ak):List Nat->Option (List ak)
 | []=>some []
 | i::r=>match nth D i,D3 D r with
   | some y,some ys=>some (y::ys)
   | _,_=>none
theorem agI:∀ {is:List Nat} {hj:List ak},D3 D is=some hj->Na D hj
 | [],hj,h=>by simp only [D3,Option.some.injEq] at h;subst h;trivial
 | i::r,hj,h=>by
   simp only [D3] at h
   split at h
   · rename_i y ys aB aR
     simp only [Option.some.injEq] at h
     subst h
     exact ⟨⟨i,by rw [<-s3];exact aB⟩,agI aR⟩
   · cases h
theorem aw.eg (h:aw W M0 X w E D) (is:List Nat) (e:D3 D is=some hj:=by kernel_rfl):aw W M0 X w E hj:=h.pick (agI e)
theorem aw.aX (h:aw W M0 X w E D) (W5 is:List Nat) (bL:ID W5=true:=by kernel_rfl) (b8:D4 E W5=some lL:=by kernel_rfl) (e:D3 D is=some hj:=by kernel_rfl):aw W M0 X w lL hj:=(h.k1 W5 bL b8).eg is e
theorem aC {α:Type} {a b:α} (h:some a=some b):a=b:=Option.some.inj h
theorem os {α:Type} {a b:α} (h:some a=some b):b=a:=(Option.some.inj h).symm
def ow:List (Nat × Value)->List (Nat × Value)->List (Nat × Value)
 | [],r=>r
 | x::l,r=>x::ow l r
def um:List (Nat × Value)->Nat->Bool
 | [],_=>false
 | p::r,j=>Nat.beq p.1 j || um r j
def IH:List (Nat × Value)->List (Nat × Value)->List (Nat × Value)
 | _,[]=>[]
 | new,p::r=>match um new p.1 with
   | true=>IH new r
   | false=>p::IH (p::new) r
def lQ (new b5:List (Nat × Value)):List (Nat × Value):=ow new (IH new b5)
theorem af0 {t:Nat} {r:List (Nat × Value)}:∀ {l:List (Nat × Value)},fr (ow l r) t=cond (um l t) (fr l t) (fr r t)
 | []=>by simp [ow,um]
 | p::l=>by
   simp only [ow,fr,um]
   cases Nat.beq p.1 t with
   | true=>simp
   | false=>simp only [Bool.false_or];exact af0
theorem Xp {t:Nat}:∀ {r new:List (Nat × Value)},um new t=false->fr (IH new r) t=fr r t
 | [],_,_=>rfl
 | p::r,new,h=>by
   simp only [IH,fr]
   cases aY:Nat.beq p.1 t with
   | true=>
     have:p.1 =t:=Nat.eq_of_beq_eq_true aY
     rw [this,h]
     simp only [fr,this,Nat.beq_refl]
   | false=>
     cases um new p.1 with
     | true=>simp only;exact Xp h
     | false=>simp only [fr,aY];exact Xp (by simp only [um,aY,Bool.false_or];exact h)
theorem Fr.Gg (I:Fr n (lQ new b5) a):Fr n (ow new b5) a:=⟨I.size,I.defers,fun t v bP=>I.get t v (by
 unfold lQ
 rw [af0] at bP ⊢
 cases hb:um new t with
 | true=>rw [hb] at bP;exact bP
 | false=>rw [hb] at bP;rw [Xp hb];exact bP)⟩
def LF (G:mu) (ops:Array Oper) (n:Nat) (M:List (Nat × Nat × List Value)) (is a6:List Nat) (b5:List (Nat × Value)) (dz:List Nat):Option (List (Nat × Value) × List (Nat × Nat)):=
 match A1 ops.toList is with
 | some os=>kj G ops n M os a6 b5 dz
 | none=>none
theorem aln {G:mu} {ops:Array Oper} {n:Nat} {M:List (Nat × Nat × List Value)} {is a6:List Nat} {b5:List (Nat × Value)} {dz:List Nat} {r:List (Nat × Value) × List (Nat × Nat)} (h:LF G ops n M is a6 b5 dz=some r):∃ os,A1 ops.toList is=some os/\kj G ops n M os a6 b5 dz=some r:=by
 unfold LF at h
 split at h
 · rename_i os aB;exact ⟨os,aB,h⟩
 · cases h
end
end a2
namespace J
structure Kind where
 Kind:Int
 aO:List UInt8
 deriving DecidableEq
structure Handler where
 From:Int
 To:Int
 gY:Int
 aO:List UInt8
 deriving DecidableEq
structure Method where
 Name:List UInt8
 Static:Bool
 bK:List Kind
 Returns:Kind
 cY:Int
 cX:Int
 Code:List UInt8
 bN:List Handler
structure Field where
 Name:List UInt8
 Kind:Kind
 deriving DecidableEq
structure aO where
 Name:List UInt8
 b2:List UInt8
 Fields:List Field
 aU:List Method
structure Target where
 aO:Int
 Method:Int
 deriving DecidableEq
structure bt where
 aG:List aO
 aE:List Int
 Fields:List (List Field)
 Names:List (List (List UInt8))
 aD:List (List Target)
structure dk where
 l:List aO
 cK:List ((List UInt8) × Int)
 b9:List Int
structure bp where
 Words:List Int
 aq:Int
 aA:Int
 aP:Int
 aM:Int
 au:List Int
 Next:Int
structure dn where
 K:bt
structure cl where
 H:bp
 S:dn
 aq:List Int
 aA:List Int
 c6:List (Int × Bool)
end J
namespace J
open Go
def dw:a2.fc Kind where
 size:=2
 rd _ _ cs d:=cs= [.int .i64 d.Kind,a2.ao d.aO]
 len h:=by subst h;rfl
 one h v ad:=by subst h;simp only [List.mem_cons,List.not_mem_nil,or_false] at ad;rcases ad with rfl | rfl <;> rfl
 law _ h:=h
def er:a2.fc Handler where
 size:=4
 rd _ _ cs d:=cs= [.int .i64 d.From,.int .i64 d.To,.int .i64 d.gY,a2.ao d.aO]
 len h:=by subst h;rfl
 one h v ad:=by subst h;simp only [List.mem_cons,List.not_mem_nil,or_false] at ad;rcases ad with rfl | rfl | rfl | rfl <;> rfl
 law _ h:=h
def b':a2.fc Method where
 size:=9
 rd F w cs d:=∃ fZ d_ f_ eb,cs= [a2.ao d.Name,.bool d.Static,.slice fZ d.bK.length d_,.int .i64 d.Returns.Kind,a2.ao d.Returns.aO,.int .i64 d.cY,.int .i64 d.cX,a2.ao d.Code,.slice f_ d.bN.length eb]/\(a2.aH J.dw).rd F w [.slice fZ d.bK.length d_] d.bK/\(a2.aH J.er).rd F w [.slice f_ d.bN.length eb] d.bN
 len h:=by obtain ⟨fZ,d_,f_,eb,bJ,_⟩:=h;subst bJ;rfl
 one h v ad:=by obtain ⟨fZ,d_,f_,eb,bJ,_⟩:=h;subst bJ;simp only [List.mem_cons,List.not_mem_nil,or_false] at ad;rcases ad with rfl | rfl | rfl | rfl | rfl | rfl | rfl | rfl | rfl <;> rfl
 law bW h:=by obtain ⟨fZ,d_,f_,eb,bJ,aB,aR⟩:=h;exact ⟨fZ,d_,f_,eb,bJ,(a2.aH J.dw).law bW aB,(a2.aH J.er).law bW aR⟩
def aW:a2.fc Field where
 size:=3
 rd _ _ cs d:=cs= [a2.ao d.Name,.int .i64 d.Kind.Kind,a2.ao d.Kind.aO]
 len h:=by subst h;rfl
 one h v ad:=by subst h;simp only [List.mem_cons,List.not_mem_nil,or_false] at ad;rcases ad with rfl | rfl | rfl <;> rfl
 law _ h:=h
def bc:a2.fc aO where
 size:=4
 rd F w cs d:=∃ fZ d_ f_ eb,cs= [a2.ao d.Name,a2.ao d.b2,.slice fZ d.Fields.length d_,.slice f_ d.aU.length eb]/\(a2.aH J.aW).rd F w [.slice fZ d.Fields.length d_] d.Fields/\(a2.aH J.b').rd F w [.slice f_ d.aU.length eb] d.aU
 len h:=by obtain ⟨fZ,d_,f_,eb,bJ,_⟩:=h;subst bJ;rfl
 one h v ad:=by obtain ⟨fZ,d_,f_,eb,bJ,_⟩:=h;subst bJ;simp only [List.mem_cons,List.not_mem_nil,or_false] at ad;rcases ad with rfl | rfl | rfl | rfl <;> rfl
 law bW h:=by obtain ⟨fZ,d_,f_,eb,bJ,aB,aR⟩:=h;exact ⟨fZ,d_,f_,eb,bJ,(a2.aH J.aW).law bW aB,(a2.aH J.b').law bW aR⟩
def bV:a2.fc Target where
 size:=2
 rd _ _ cs d:=cs= [.int .i64 d.aO,.int .i64 d.Method]
 len h:=by subst h;rfl
 one h v ad:=by subst h;simp only [List.mem_cons,List.not_mem_nil,or_false] at ad;rcases ad with rfl | rfl <;> rfl
 law _ h:=h
def aIl:a2.fc bt where
 size:=5
 rd F w cs d:=∃ fZ d_ f_ eb r_ fG wk iZ wm la,cs= [.slice fZ d.aG.length d_,.slice f_ d.aE.length eb,.slice r_ d.Fields.length fG,.slice wk d.Names.length iZ,.slice wm d.aD.length la]/\(a2.aH J.bc).rd F w [.slice fZ d.aG.length d_] d.aG/\(a2.aH (a2.ai .i64)).rd F w [.slice f_ d.aE.length eb] d.aE/\(a2.aH (a2.aH J.aW)).rd F w [.slice r_ d.Fields.length fG] d.Fields/\(a2.aH (a2.aH a2.bF)).rd F w [.slice wk d.Names.length iZ] d.Names/\(a2.aH (a2.aH J.bV)).rd F w [.slice wm d.aD.length la] d.aD
 len h:=by obtain ⟨fZ,d_,f_,eb,r_,fG,wk,iZ,wm,la,bJ,_⟩:=h;subst bJ;rfl
 one h v ad:=by obtain ⟨fZ,d_,f_,eb,r_,fG,wk,iZ,wm,la,bJ,_⟩:=h;subst bJ;simp only [List.mem_cons,List.not_mem_nil,or_false] at ad;rcases ad with rfl | rfl | rfl | rfl | rfl <;> rfl
 law bW h:=by obtain ⟨fZ,d_,f_,eb,r_,fG,wk,iZ,wm,la,bJ,aB,aR,bT,eo,hL⟩:=h;exact ⟨fZ,d_,f_,eb,r_,fG,wk,iZ,wm,la,bJ,(a2.aH J.bc).law bW aB,(a2.aH (a2.ai .i64)).law bW aR,(a2.aH (a2.aH J.aW)).law bW bT,(a2.aH (a2.aH a2.bF)).law bW eo,(a2.aH (a2.aH J.bV)).law bW hL⟩
def aIk:a2.fc bp where
 size:=7
 rd F w cs d:=∃ fZ d_ f_ eb,cs= [.slice fZ d.Words.length d_,.int .i64 d.aq,.int .i64 d.aA,.int .i64 d.aP,.int .i64 d.aM,.slice f_ d.au.length eb,.int .i64 d.Next]/\(a2.aH (a2.ai .i64)).rd F w [.slice fZ d.Words.length d_] d.Words/\(a2.aH (a2.ai .i64)).rd F w [.slice f_ d.au.length eb] d.au
 len h:=by obtain ⟨fZ,d_,f_,eb,bJ,_⟩:=h;subst bJ;rfl
 one h v ad:=by obtain ⟨fZ,d_,f_,eb,bJ,_⟩:=h;subst bJ;simp only [List.mem_cons,List.not_mem_nil,or_false] at ad;rcases ad with rfl | rfl | rfl | rfl | rfl | rfl | rfl <;> rfl
 law bW h:=by obtain ⟨fZ,d_,f_,eb,bJ,aB,aR⟩:=h;exact ⟨fZ,d_,f_,eb,bJ,(a2.aH (a2.ai .i64)).law bW aB,(a2.aH (a2.ai .i64)).law bW aR⟩
end J
namespace Go.Value
abbrev aK (g:Nat):Value:=.pointer (some ⟨g,0,none⟩)
abbrev i (n:Int):Value:=.int .i64 n
end Go.Value
namespace Go.Proofs.YtpkhpagplommoaaGreat
open Go Go.RowKit
abbrev U {α:Type} (T:a2.fc α) (A:Option Addr) (c:Nat) (l:List α):a2.ak:=a2.ak.of (a2.aH T) [.slice A l.length c] l
def mF:a2.mu:=⟨[(3,.i .i64),(4,.b),(5,.i .u8),(9,.s),(22,.U),(25,.U),(26,.U),(27,.U),(28,.U),(31,.i .i64),(106,.U),(124,.U),(125,.U),(126,.U),(130,.U),(131,.U),(134,.U),(184,.U),(186,.U)],[(24,0,0),(24,1,1),(24,2,2),(24,3,3),(24,4,4),(24,5,5),(24,6,6),(30,0,0),(30,1,1),(30,2,2),(30,3,3),(30,4,4),(74,0,0),(77,0,0),(77,1,7),(77,2,12),(77,3,13),(77,4,14),(103,0,0),(103,1,1),(105,0,0),(105,1,1),(122,0,0),(122,1,1),(122,2,2),(133,0,0),(133,1,1),(133,2,2),(133,3,3),(133,4,5),(133,5,6),(133,6,7),(133,7,8),(136,0,0),(136,1,1),(136,2,2),(136,3,3),(150,0,0),(150,1,1),(150,2,2),(150,3,3)],[(3,none),(4,none),(5,none),(9,none),(22,none),(24,some 7),(25,none),(26,none),(27,none),(28,none),(30,some 5),(65,none),(74,some 5),(75,none),(103,some 2),(105,some 3),(106,none),(118,none),(120,none),(123,none),(125,none),(126,none),(130,none),(131,none),(133,some 9),(134,none),(136,some 4),(150,some 4),(159,some 2)]⟩
theorem nK:a2.sc Tryz.prog mF:=⟨⟨Tryz.underlying3,Tryz.underlying4,Tryz.underlying5,Tryz.underlying9,⟨_,Tryz.underlying22⟩,⟨_,Tryz.underlying25⟩,⟨_,Tryz.underlying26⟩,⟨_,Tryz.underlying27⟩,⟨_,Tryz.underlying28⟩,Tryz.underlying31,⟨_,Tryz.underlying106⟩,⟨_,Tryz.underlying124⟩,⟨_,Tryz.underlying125⟩,⟨_,Tryz.underlying126⟩,⟨_,Tryz.underlying130⟩,⟨_,Tryz.underlying131⟩,⟨_,Tryz.underlying134⟩,⟨_,Tryz.underlying184⟩,⟨_,Tryz.underlying186⟩,trivial⟩,⟨a2.fw Tryz.underlying24 rfl rfl Tryz.sizeOf22 rfl,a2.fw Tryz.underlying24 rfl rfl Tryz.sizeOf3 rfl,a2.fw Tryz.underlying24 rfl rfl Tryz.sizeOf3 rfl,a2.fw Tryz.underlying24 rfl rfl Tryz.sizeOf3 rfl,a2.fw Tryz.underlying24 rfl rfl Tryz.sizeOf3 rfl,a2.fw Tryz.underlying24 rfl rfl Tryz.sizeOf22 rfl,a2.fw Tryz.underlying24 rfl rfl Tryz.sizeOf3 rfl,a2.fw Tryz.underlying30 rfl rfl Tryz.sizeOf25 rfl,a2.fw Tryz.underlying30 rfl rfl Tryz.sizeOf22 rfl,a2.fw Tryz.underlying30 rfl rfl Tryz.sizeOf26 rfl,a2.fw Tryz.underlying30 rfl rfl Tryz.sizeOf27 rfl,a2.fw Tryz.underlying30 rfl rfl Tryz.sizeOf28 rfl,a2.fw Tryz.underlying74 rfl rfl Tryz.sizeOf30 rfl,a2.fw Tryz.underlying77 rfl rfl Tryz.sizeOf24 rfl,a2.fw Tryz.underlying77 rfl rfl Tryz.sizeOf74 rfl,a2.fw Tryz.underlying77 rfl rfl Tryz.sizeOf22 rfl,a2.fw Tryz.underlying77 rfl rfl Tryz.sizeOf22 rfl,a2.fw Tryz.underlying77 rfl rfl Tryz.sizeOf75 rfl,a2.fw Tryz.underlying103 rfl rfl Tryz.sizeOf3 rfl,a2.fw Tryz.underlying103 rfl rfl Tryz.sizeOf9 rfl,a2.fw Tryz.underlying105 rfl rfl Tryz.sizeOf9 rfl,a2.fw Tryz.underlying105 rfl rfl Tryz.sizeOf103 rfl,a2.fw Tryz.underlying122 rfl rfl Tryz.sizeOf25 rfl,a2.fw Tryz.underlying122 rfl rfl Tryz.sizeOf120 rfl,a2.fw Tryz.underlying122 rfl rfl Tryz.sizeOf22 rfl,a2.fw Tryz.underlying133 rfl rfl Tryz.sizeOf9 rfl,a2.fw Tryz.underlying133 rfl rfl Tryz.sizeOf4 rfl,a2.fw Tryz.underlying133 rfl rfl Tryz.sizeOf130 rfl,a2.fw Tryz.underlying133 rfl rfl Tryz.sizeOf103 rfl,a2.fw Tryz.underlying133 rfl rfl Tryz.sizeOf3 rfl,a2.fw Tryz.underlying133 rfl rfl Tryz.sizeOf3 rfl,a2.fw Tryz.underlying133 rfl rfl Tryz.sizeOf9 rfl,a2.fw Tryz.underlying133 rfl rfl Tryz.sizeOf131 rfl,a2.fw Tryz.underlying136 rfl rfl Tryz.sizeOf9 rfl,a2.fw Tryz.underlying136 rfl rfl Tryz.sizeOf9 rfl,a2.fw Tryz.underlying136 rfl rfl Tryz.sizeOf106 rfl,a2.fw Tryz.underlying136 rfl rfl Tryz.sizeOf134 rfl,a2.fw Tryz.underlying150 rfl rfl Tryz.sizeOf3 rfl,a2.fw Tryz.underlying150 rfl rfl Tryz.sizeOf3 rfl,a2.fw Tryz.underlying150 rfl rfl Tryz.sizeOf3 rfl,a2.fw Tryz.underlying150 rfl rfl Tryz.sizeOf9 rfl,trivial⟩,⟨Tryz.isAgg3,Tryz.isAgg4,Tryz.isAgg5,Tryz.isAgg9,Tryz.isAgg22,⟨Tryz.isAgg24,Tryz.sizeOf24⟩,Tryz.isAgg25,Tryz.isAgg26,Tryz.isAgg27,Tryz.isAgg28,⟨Tryz.isAgg30,Tryz.sizeOf30⟩,Tryz.isAgg65,⟨Tryz.isAgg74,Tryz.sizeOf74⟩,Tryz.isAgg75,⟨Tryz.isAgg103,Tryz.sizeOf103⟩,⟨Tryz.isAgg105,Tryz.sizeOf105⟩,Tryz.isAgg106,Tryz.isAgg118,Tryz.isAgg120,Tryz.isAgg123,Tryz.isAgg125,Tryz.isAgg126,Tryz.isAgg130,Tryz.isAgg131,⟨Tryz.isAgg133,Tryz.sizeOf133⟩,Tryz.isAgg134,⟨Tryz.isAgg136,Tryz.sizeOf136⟩,⟨Tryz.isAgg150,Tryz.sizeOf150⟩,⟨Tryz.isAgg159,Tryz.sizeOf159⟩,trivial⟩⟩
theorem jb:(Tryz.prog.info? 3).map (fun i=>(i.zero,i.size,i.bytes))=some (some (.int .i64 0),1,8):=by kernel_rfl
theorem yn:(Tryz.prog.info? 9).map (fun i=>(i.zero,i.size,i.bytes))=some (some (a2.ao []),1,16):=by kernel_rfl
theorem aFI:(Tryz.prog.info? 103).map (fun i=>(i.zero,i.size,i.bytes))=some (some (.agg #[.int .i64 0,a2.ao []]),2,24):=by kernel_rfl
theorem Vu:(Tryz.prog.info? 105).map (fun i=>(i.zero,i.size,i.bytes))=some (some (.agg #[a2.ao [],.int .i64 0,a2.ao []]),3,40):=by kernel_rfl
theorem aeW:(Tryz.prog.info? 106).map (fun i=>(i.zero,i.size,i.bytes))=some (some (.slice none 0 0),1,24):=by kernel_rfl
theorem aeX:(Tryz.prog.info? 125).map (fun i=>(i.zero,i.size,i.bytes))=some (some (.slice none 0 0),1,24):=by kernel_rfl
theorem aeY:(Tryz.prog.info? 126).map (fun i=>(i.zero,i.size,i.bytes))=some (some (.slice none 0 0),1,24):=by kernel_rfl
theorem aFJ:(Tryz.prog.info? 133).map (fun i=>(i.zero,i.size,i.bytes))=some (some (.agg #[a2.ao [],.bool false,.slice none 0 0,.int .i64 0,a2.ao [],.int .i64 0,.int .i64 0,a2.ao [],.slice none 0 0]),9,128):=by kernel_rfl
theorem aFK:(Tryz.prog.info? 136).map (fun i=>(i.zero,i.size,i.bytes))=some (some (.agg #[a2.ao [],a2.ao [],.slice none 0 0,.slice none 0 0]),4,80):=by kernel_rfl
theorem aFL:(Tryz.prog.info? 150).map (fun i=>(i.zero,i.size,i.bytes))=some (some (.agg #[.int .i64 0,.int .i64 0,.int .i64 0,a2.ao []]),4,40):=by kernel_rfl
theorem Mq:(Tryz.prog.info? 159).map (fun i=>(i.zero,i.size,i.bytes))=some (some (.agg #[.int .i64 0,.int .i64 0]),2,16):=by kernel_rfl
theorem rK:∀ w,(a2.placesOf Tryz.prog 24).run Tryz.prog w= .ok #[(0,1),(1,1),(2,1),(3,1),(4,1),(5,1),(6,1)] w:=fun w=>by kernel_rfl
theorem qv:∀ w,(a2.placesOf Tryz.prog 30).run Tryz.prog w= .ok #[(0,1),(1,1),(2,1),(3,1),(4,1)] w:=fun w=>by kernel_rfl
theorem aGQ:∀ w,(a2.placesOf Tryz.prog 74).run Tryz.prog w= .ok #[(0,5)] w:=fun w=>by kernel_rfl
theorem aGR:∀ w,(a2.placesOf Tryz.prog 77).run Tryz.prog w= .ok #[(0,7),(7,5),(12,1),(13,1),(14,1)] w:=fun w=>by kernel_rfl
theorem age:∀ w,(a2.placesOf Tryz.prog 103).run Tryz.prog w= .ok #[(0,1),(1,1)] w:=fun w=>by kernel_rfl
theorem aGN:∀ w,(a2.placesOf Tryz.prog 105).run Tryz.prog w= .ok #[(0,1),(1,2)] w:=fun w=>by kernel_rfl
theorem aGO:∀ w,(a2.placesOf Tryz.prog 122).run Tryz.prog w= .ok #[(0,1),(1,1),(2,1)] w:=fun w=>by kernel_rfl
theorem aGP:∀ w,(a2.placesOf Tryz.prog 133).run Tryz.prog w= .ok #[(0,1),(1,1),(2,1),(3,2),(5,1),(6,1),(7,1),(8,1)] w:=fun w=>by kernel_rfl
theorem agf:∀ w,(a2.placesOf Tryz.prog 136).run Tryz.prog w= .ok #[(0,1),(1,1),(2,1),(3,1)] w:=fun w=>by kernel_rfl
theorem XF:∀ w,(a2.placesOf Tryz.prog 159).run Tryz.prog w= .ok #[(0,1),(1,1)] w:=fun w=>by kernel_rfl
theorem ale {o:Oper} {a:Act} {w:World} {ep:TypeId} {x y:Operand} {X Y:J.Kind} (br:o.op= .binOp .eql 103 x y ep) (aj:a.eval x= .agg #[.int .i64 X.Kind,a2.ao X.aO]) (hy:a.eval y= .agg #[.int .i64 Y.Kind,a2.ao Y.aO]):a2.cf Tryz.prog o a w (.bool (decide (X=Y))) w:=by
 have bZ:decide (X=Y)=decide (X.Kind=Y.Kind/\X.aO=Y.aO/\True):=by rcases X with ⟨_,_⟩;rcases Y with ⟨_,_⟩;simp
 rw [bZ]
 exact a2.aJs Tryz.underlying103 (by kernel_rfl) (by kernel_rfl) (a2.xJ rfl Tryz.underlying3 Tryz.isAgg3 rfl rfl (a2.Gi rfl Tryz.underlying9 Tryz.isAgg9 rfl rfl (by simp [a2.CO]))) br aj hy
theorem Gj {o:Oper} {a:Act} {w:World} {ep:TypeId} {x y:Operand} {X Y:J.Kind} (br:o.op= .binOp .neq 103 x y ep) (aj:a.eval x= .agg #[.int .i64 X.Kind,a2.ao X.aO]) (hy:a.eval y= .agg #[.int .i64 Y.Kind,a2.ao Y.aO]):a2.cf Tryz.prog o a w (.bool (!decide (X=Y))) w:=by
 have bZ:decide (X=Y)=decide (X.Kind=Y.Kind/\X.aO=Y.aO/\True):=by rcases X with ⟨_,_⟩;rcases Y with ⟨_,_⟩;simp
 rw [bZ]
 exact a2.P0 Tryz.underlying103 (by kernel_rfl) (by kernel_rfl) (a2.xJ rfl Tryz.underlying3 Tryz.isAgg3 rfl rfl (a2.Gi rfl Tryz.underlying9 Tryz.isAgg9 rfl rfl (by simp [a2.CO]))) br aj hy
theorem ac4 {o:Oper} {a:Act} {w:World} {ep:TypeId} {x y:Operand} {X Y:J.Field} (br:o.op= .binOp .neq 105 x y ep) (aj:a.eval x= .agg #[a2.ao X.Name,.int .i64 X.Kind.Kind,a2.ao X.Kind.aO]) (hy:a.eval y= .agg #[a2.ao Y.Name,.int .i64 Y.Kind.Kind,a2.ao Y.Kind.aO]):a2.cf Tryz.prog o a w (.bool (!decide (X=Y))) w:=by
 have bZ:decide (X=Y)=decide (X.Name=Y.Name/\(X.Kind.Kind=Y.Kind.Kind/\X.Kind.aO=Y.Kind.aO/\True)/\True):=by rcases X with ⟨_,⟨_,_⟩⟩;rcases Y with ⟨_,⟨_,_⟩⟩;simp
 rw [bZ]
 exact a2.P0 Tryz.underlying105 (by kernel_rfl) (by kernel_rfl) (a2.Gi rfl Tryz.underlying9 Tryz.isAgg9 rfl rfl (a2.ak8 (us:=[.int .i64 X.Kind.Kind,a2.ao X.Kind.aO]) (vs:=[.int .i64 Y.Kind.Kind,a2.ao Y.Kind.aO]) (q:=X.Kind.Kind=Y.Kind.Kind/\X.Kind.aO=Y.Kind.aO/\True) rfl Tryz.isAgg103 Tryz.sizeOf103 rfl rfl (a2.alg Tryz.underlying103 (by kernel_rfl) (a2.xJ rfl Tryz.underlying3 Tryz.isAgg3 rfl rfl (a2.Gi rfl Tryz.underlying9 Tryz.isAgg9 rfl rfl (by simp [a2.CO])))) (by simp [a2.CO]))) br aj hy
theorem alf {o:Oper} {a:Act} {w:World} {ep:TypeId} {x y:Operand} {X Y:J.Handler} (br:o.op= .binOp .neq 150 x y ep) (aj:a.eval x= .agg #[.int .i64 X.From,.int .i64 X.To,.int .i64 X.gY,a2.ao X.aO]) (hy:a.eval y= .agg #[.int .i64 Y.From,.int .i64 Y.To,.int .i64 Y.gY,a2.ao Y.aO]):a2.cf Tryz.prog o a w (.bool (!decide (X=Y))) w:=by
 have bZ:decide (X=Y)=decide (X.From=Y.From/\X.To=Y.To/\X.gY=Y.gY/\X.aO=Y.aO/\True):=by rcases X with ⟨_,_,_,_⟩;rcases Y with ⟨_,_,_,_⟩;simp
 rw [bZ]
 exact a2.P0 Tryz.underlying150 (by kernel_rfl) (by kernel_rfl) (a2.xJ rfl Tryz.underlying3 Tryz.isAgg3 rfl rfl (a2.xJ rfl Tryz.underlying3 Tryz.isAgg3 rfl rfl (a2.xJ rfl Tryz.underlying3 Tryz.isAgg3 rfl rfl (a2.Gi rfl Tryz.underlying9 Tryz.isAgg9 rfl rfl (by simp [a2.CO]))))) br aj hy
theorem ac5 {o:Oper} {a:Act} {w:World} {ep:TypeId} {x y:Operand} {X Y:J.Target} (br:o.op= .binOp .neq 159 x y ep) (aj:a.eval x= .agg #[.int .i64 X.aO,.int .i64 X.Method]) (hy:a.eval y= .agg #[.int .i64 Y.aO,.int .i64 Y.Method]):a2.cf Tryz.prog o a w (.bool (!decide (X=Y))) w:=by
 have bZ:decide (X=Y)=decide (X.aO=Y.aO/\X.Method=Y.Method/\True):=by rcases X with ⟨_,_⟩;rcases Y with ⟨_,_⟩;simp
 rw [bZ]
 exact a2.P0 Tryz.underlying159 (by kernel_rfl) (by kernel_rfl) (a2.xJ rfl Tryz.underlying3 Tryz.isAgg3 rfl rfl (a2.xJ rfl Tryz.underlying3 Tryz.isAgg3 rfl rfl (by simp [a2.CO]))) br aj hy
section
open a2
variable {n:ha} {b5:List (Nat × Value)} {w:World} {a:Act}
theorem ek (k:Nat) (a6:List Nat) {ops:Array Oper} {Q:Exit->Act->World->Prop} {rest:List Oper} (fr':List (Nat × Value)) (I:Fr n b5 a)
 (next:∀ bM,Fr n fr' bM->wpList Tryz.prog ops Q (rest.drop k) bM w) (he:kj mF ops n [] (rest.take k) a6 b5 (fr'.map (·.1))=some (fr',dup []):=by kernel_rfl):wpList Tryz.prog ops Q rest a w:=hh k _ a6 nK ax I he next
theorem kH (k:Nat) (a6:List Nat) {ops:Array Oper} {Q:Exit->Act->World->Prop} {rest:List Oper} {M:List (Nat × Nat × List Value)} (fr':List (Nat × Value)) (L:List Nat) (fp:jd w M) (I:Fr n b5 a)
 (next:∀ bM,Fr n fr' bM->wpList Tryz.prog ops Q (rest.drop k) bM w) (he:kj mF ops n M (rest.take k) a6 b5 (fr'.map (·.1))=some (fr',dup L):=by kernel_rfl):wpList Tryz.prog ops Q rest a w:=hh k _ a6 nK fp I he next
theorem Nc (k:Nat) (a6:List Nat) {ops:Array Oper} {C:World->Prop} {nu:Act->Prop} {rest:List Oper} {M:List (Nat × Nat × List Value)} (fr':List (Nat × Value)) (L:List Nat) (fp:∀ w,C w->jd w M) (I:Fr n b5 a)
 (next:∀ bM,Fr n fr' bM->wpQuiet Tryz.prog ops C nu (rest.drop k) bM) (he:kj mF ops n M (rest.take k) a6 b5 (fr'.map (·.1))=some (fr',dup L):=by kernel_rfl):wpQuiet Tryz.prog ops C nu rest a:=agk k _ a6 nK fp I he next
theorem rg (a6:List Nat) {id:Nat} {lo:List Oper} {Q:Exit->Act->World->Prop} {M:List (Nat × Nat × List Value)} (fr':List (Nat × Value)) (L:List Nat) (fp:jd w M) (I:Fr n b5 a)
 (next:∀ bM,Fr n fr' bM->Q .normal bM w) (he:kj mF lo.toArray n M lo a6 b5 (fr'.map (·.1))=some (fr',dup L):=by kernel_rfl):(Code.region id lo.toArray false).wp Tryz.prog Q a w:=by
 refine aZ (hh lo.length _ a6 nK fp I (by rw [List.take_length];exact he) fun bM eX=>?_)
 rw [List.drop_length]
 exact next bM eX
theorem D0 (a6:List Nat) {id:Nat} {lo:List Oper} {Q:Exit->Act->World->Prop} (fr':List (Nat × Value)) (I:Fr n b5 a)
 (next:∀ bM,Fr n fr' bM->Q .normal bM w) (he:kj mF lo.toArray n [] lo a6 b5 (fr'.map (·.1))=some (fr',dup []):=by kernel_rfl):(Code.region id lo.toArray false).wp Tryz.prog Q a w:=rg a6 fr' [] ax I next he
theorem bu (a6:List Nat) {id:Nat} {lo:List Oper} {c:Code} {Q:Exit->Act->World->Prop} (fr':List (Nat × Value)) (I:Fr n b5 a)
 (next:∀ bM,Fr n fr' bM->c.wp Tryz.prog Q bM w) (he:kj mF lo.toArray n [] lo a6 b5 (fr'.map (·.1))=some (fr',dup []):=by kernel_rfl):(Code.seq (.region id lo.toArray false) c).wp Tryz.prog Q a w:=wp_seq_k fun _ hz=>rg a6 fr' [] ax I (fun bM eX=>hz _ _ (next bM eX)) he
theorem aN (k:Nat) (a6:List Nat) {ops:Array Oper} {Q:Exit->Act->World->Prop} {rest:List Oper} (hp:List (Nat × Value)) (I:Fr n b5 a)
 (next:∀ bM,Fr n (ow hp b5) bM->wpList Tryz.prog ops Q (rest.drop k) bM w) (he:kj mF ops n [] (rest.take k) a6 b5 ((lQ hp b5).map (·.1))=some (lQ hp b5,dup []):=by kernel_rfl):wpList Tryz.prog ops Q rest a w:=hh k _ a6 nK ax I he fun bM h=>next bM h.Gg
theorem bf (k:Nat) (a6:List Nat) {ops:Array Oper} {Q:Exit->Act->World->Prop} {rest:List Oper} {M:List (Nat × Nat × List Value)} (hp:List (Nat × Value)) (L:List Nat) (fp:jd w M) (I:Fr n b5 a)
 (next:∀ bM,Fr n (ow hp b5) bM->wpList Tryz.prog ops Q (rest.drop k) bM w) (he:kj mF ops n M (rest.take k) a6 b5 ((lQ hp b5).map (·.1))=some (lQ hp b5,dup L):=by kernel_rfl):wpList Tryz.prog ops Q rest a w:=hh k _ a6 nK fp I he fun bM h=>next bM h.Gg
theorem dQ (k:Nat) (a6:List Nat) {ops:Array Oper} {C:World->Prop} {nu:Act->Prop} {rest:List Oper} {M:List (Nat × Nat × List Value)} (hp:List (Nat × Value)) (L:List Nat) (fp:∀ w,C w->jd w M) (I:Fr n b5 a)
 (next:∀ bM,Fr n (ow hp b5) bM->wpQuiet Tryz.prog ops C nu (rest.drop k) bM) (he:kj mF ops n M (rest.take k) a6 b5 ((lQ hp b5).map (·.1))=some (lQ hp b5,dup L):=by kernel_rfl):wpQuiet Tryz.prog ops C nu rest a:=agk k _ a6 nK fp I he fun bM h=>next bM h.Gg
theorem eH (a6:List Nat) {id:Nat} {lo:List Oper} {Q:Exit->Act->World->Prop} {M:List (Nat × Nat × List Value)} (hp:List (Nat × Value)) (L:List Nat) (fp:jd w M) (I:Fr n b5 a)
 (next:∀ bM,Fr n (ow hp b5) bM->Q .normal bM w) (he:kj mF lo.toArray n M lo a6 b5 ((lQ hp b5).map (·.1))=some (lQ hp b5,dup L):=by kernel_rfl):(Code.region id lo.toArray false).wp Tryz.prog Q a w:=rg a6 _ L fp I (fun bM h=>next bM h.Gg) he
theorem cg (a6:List Nat) {id:Nat} {lo:List Oper} {Q:Exit->Act->World->Prop} (hp:List (Nat × Value)) (I:Fr n b5 a)
 (next:∀ bM,Fr n (ow hp b5) bM->Q .normal bM w) (he:kj mF lo.toArray n [] lo a6 b5 ((lQ hp b5).map (·.1))=some (lQ hp b5,dup []):=by kernel_rfl):(Code.region id lo.toArray false).wp Tryz.prog Q a w:=eH a6 hp [] ax I next he
theorem bd (a6:List Nat) {id:Nat} {lo:List Oper} {c:Code} {Q:Exit->Act->World->Prop} (hp:List (Nat × Value)) (I:Fr n b5 a)
 (next:∀ bM,Fr n (ow hp b5) bM->c.wp Tryz.prog Q bM w) (he:kj mF lo.toArray n [] lo a6 b5 ((lQ hp b5).map (·.1))=some (lQ hp b5,dup []):=by kernel_rfl):(Code.seq (.region id lo.toArray false) c).wp Tryz.prog Q a w:=wp_seq_k fun _ hz=>eH a6 hp [] ax I (fun bM eX=>hz _ _ (next bM eX)) he
variable {ops:Array Oper} {Q:Exit->Act->World->Prop} {S:World->Prop} {f p:Nat} {ds:List Nat} {M:List (Nat × Nat × List Value)}
theorem a0 (is:List Nat) (k:Nat) (a6:List Nat) (fr':List (Nat × Value)) (L:List Nat) (fp:∀ w,S w->jd w M) (I:Fr n b5 a) (oP:S w) (next:∀ bM,Fr n fr' bM->dT Tryz.prog ops Q p S f (IZ is ds) bM w)
 (bh:Nat.beq is.length k=true:=by kernel_rfl) (nN:(hF ops.size ds).getD p false=false:=by kernel_rfl) (bP:D9 ops p ds is=true:=by kernel_rfl) (he:LF mF ops n M is a6 b5 (fr'.map (·.1))=some (fr',dup L):=by kernel_rfl):dT Tryz.prog ops Q p S (f+k) ds a w:=by
 obtain ⟨os,aB,aR⟩:=aln he
 exact aiC is k _ a6 nK fp I bh nN aB bP aR oP next
theorem b7 (is:List Nat) (k:Nat) (a6:List Nat) (hp:List (Nat × Value)) (L:List Nat) (fp:∀ w,S w->jd w M) (I:Fr n b5 a) (oP:S w) (next:∀ bM,Fr n (ow hp b5) bM->dT Tryz.prog ops Q p S f (IZ is ds) bM w)
 (bh:Nat.beq is.length k=true:=by kernel_rfl) (nN:(hF ops.size ds).getD p false=false:=by kernel_rfl) (bP:D9 ops p ds is=true:=by kernel_rfl) (he:LF mF ops n M is a6 b5 ((lQ hp b5).map (·.1))=some (lQ hp b5,dup L):=by kernel_rfl):dT Tryz.prog ops Q p S (f+k) ds a w:=
 a0 is k a6 _ L fp I oP (fun bM h=>next bM h.Gg) bh nN bP he
end
end Go.Proofs.YtpkhpagplommoaaGreat
namespace Go.Proofs.YtpkhpagplommoaaGreat
open Go Go.RowKit
theorem nC:Tryz.prog.cellsOf 3 = 1 :=by kernel_rfl
theorem akR:Tryz.prog.cellsOf 4 = 1 :=by kernel_rfl
theorem xE:Tryz.prog.cellsOf 9 = 1 :=by kernel_rfl
theorem Rf:Tryz.prog.cellsOf 22 = 1 :=by kernel_rfl
theorem akK:Tryz.prog.cellsOf 24 = 7 :=by kernel_rfl
theorem akM:Tryz.prog.cellsOf 25 = 1 :=by kernel_rfl
theorem akN:Tryz.prog.cellsOf 26 = 1 :=by kernel_rfl
theorem akO:Tryz.prog.cellsOf 27 = 1 :=by kernel_rfl
theorem akP:Tryz.prog.cellsOf 28 = 1 :=by kernel_rfl
theorem akQ:Tryz.prog.cellsOf 30 = 5 :=by kernel_rfl
theorem Lv:Tryz.prog.cellsOf 103 = 2 :=by kernel_rfl
theorem acH:Tryz.prog.cellsOf 105 = 3 :=by kernel_rfl
theorem acI:Tryz.prog.cellsOf 106 = 1 :=by kernel_rfl
theorem akE:Tryz.prog.cellsOf 125 = 1 :=by kernel_rfl
theorem akF:Tryz.prog.cellsOf 126 = 1 :=by kernel_rfl
theorem akG:Tryz.prog.cellsOf 130 = 1 :=by kernel_rfl
theorem akH:Tryz.prog.cellsOf 131 = 1 :=by kernel_rfl
theorem acJ:Tryz.prog.cellsOf 133 = 9 :=by kernel_rfl
theorem akI:Tryz.prog.cellsOf 134 = 1 :=by kernel_rfl
theorem acK:Tryz.prog.cellsOf 136 = 4 :=by kernel_rfl
theorem acM:Tryz.prog.cellsOf 150 = 4 :=by kernel_rfl
theorem acO:Tryz.prog.cellsOf 159 = 2 :=by kernel_rfl
theorem aiR:Tryz.prog.bytesOf 3 = 8 :=by kernel_rfl
theorem aiS:Tryz.prog.bytesOf 9 = 16 :=by kernel_rfl
theorem aiI:Tryz.prog.bytesOf 103 = 24 :=by kernel_rfl
theorem aiJ:Tryz.prog.bytesOf 105 = 40 :=by kernel_rfl
theorem aiK:Tryz.prog.bytesOf 106 = 24 :=by kernel_rfl
theorem aiL:Tryz.prog.bytesOf 125 = 24 :=by kernel_rfl
theorem aiM:Tryz.prog.bytesOf 126 = 24 :=by kernel_rfl
theorem aiN:Tryz.prog.bytesOf 133 = 128 :=by kernel_rfl
theorem aiO:Tryz.prog.bytesOf 136 = 80 :=by kernel_rfl
theorem aiP:Tryz.prog.bytesOf 150 = 40 :=by kernel_rfl
theorem aiQ:Tryz.prog.bytesOf 159 = 16 :=by kernel_rfl
theorem afY {l:List Value} (h:l.length= 2):∃ a0 ej,l= [a0,ej]:=match l,h with | [a0,ej],_=>⟨a0,ej,rfl⟩
theorem aF4 {l:List Value} (h:l.length= 3):∃ a0 ej e9,l= [a0,ej,e9]:=match l,h with | [a0,ej,e9],_=>⟨a0,ej,e9,rfl⟩
theorem afZ {l:List Value} (h:l.length= 4):∃ a0 ej e9 a3,l= [a0,ej,e9,a3]:=match l,h with | [a0,ej,e9,a3],_=>⟨a0,ej,e9,a3,rfl⟩
theorem aF5 {l:List Value} (h:l.length= 5):∃ a0 ej e9 a3 a4,l= [a0,ej,e9,a3,a4]:=match l,h with | [a0,ej,e9,a3,a4],_=>⟨a0,ej,e9,a3,a4,rfl⟩
theorem aF6 {l:List Value} (h:l.length= 7):∃ a0 ej e9 a3 a4 nw mv,l= [a0,ej,e9,a3,a4,nw,mv]:=match l,h with | [a0,ej,e9,a3,a4,nw,mv],_=>⟨a0,ej,e9,a3,a4,nw,mv,rfl⟩
theorem aF7 {l:List Value} (h:l.length= 9):∃ a0 ej e9 a3 a4 nw mv zE Cg,l= [a0,ej,e9,a3,a4,nw,mv,zE,Cg]:=match l,h with | [a0,ej,e9,a3,a4,nw,mv,zE,Cg],_=>⟨a0,ej,e9,a3,a4,nw,mv,zE,Cg,rfl⟩
section
variable {H:Type} {enc:TypeId × Value->H} {N:Nat}
theorem YE:a2.h1 Tryz.prog enc N 22 (a2.aH (a2.ai .i64)) (fun l=>l.length* 8 <=N/\ ∀ e5 ∈ l,a2.iX e5):=by
 have h:=a2.rR (enc:=enc) (N:=N) Tryz.underlying22 nC (by decide) (a2.n1 Tryz.underlying3)
 rw [aiR] at h
 exact h
def aaF (N:Nat) (d:J.bp):Prop:=(d.Words.length* 8 <=N/\ ∀ e5 ∈ d.Words,a2.iX e5)/\a2.iX d.aq/\a2.iX d.aA/\a2.iX d.aP/\a2.iX d.aM/\(d.au.length* 8 <=N/\ ∀ e5 ∈ d.au,a2.iX e5)/\a2.iX d.Next
theorem aHf:a2.h1 Tryz.prog enc N 24 J.aIk (aaF N):=by
 intro W n cs x h b0 hw
 obtain ⟨kz,az,I⟩:=a2.oJ Tryz.underlying24 h b0 hw
 replace az:=az.trans akK
 obtain ⟨a0,ej,e9,a3,a4,nw,mv,rfl⟩:=aF6 az
 obtain ⟨Bz,bJ,ig,iS⟩:=a2.gn I 0 rfl rfl rfl Rf (r:=[a0]) rfl
 obtain ⟨d0,kE,ln⟩:=(YE) W _ _ _ bJ ig iS
 obtain ⟨ik,zH,iE⟩:=a2.fY kE
 obtain rfl:a0=_:=(List.cons.inj iE).1
 obtain ⟨BA,aB,hr,a5⟩:=a2.gn I 1 rfl rfl rfl nC (r:=[ej]) rfl
 obtain ⟨d1,j4,iL⟩:=(a2.n1 Tryz.underlying3) W _ _ _ aB hr a5
 have bL:[ej]=_:=j4
 obtain rfl:ej=_:=(List.cons.inj bL).1
 obtain ⟨PW,aR,mf,qz⟩:=a2.gn I 2 rfl rfl rfl nC (r:=[e9]) rfl
 obtain ⟨d2,nY,kO⟩:=(a2.n1 Tryz.underlying3) W _ _ _ aR mf qz
 have b8:[e9]=_:=nY
 obtain rfl:e9=_:=(List.cons.inj b8).1
 obtain ⟨PX,bT,s4,pk⟩:=a2.gn I 3 rfl rfl rfl nC (r:=[a3]) rfl
 obtain ⟨d3,nj,l2⟩:=(a2.n1 Tryz.underlying3) W _ _ _ bT s4 pk
 have dR:[a3]=_:=nj
 obtain rfl:a3=_:=(List.cons.inj dR).1
 obtain ⟨ahT,eo,DQ,Jh⟩:=a2.gn I 4 rfl rfl rfl nC (r:=[a4]) rfl
 obtain ⟨d4,DU,uO⟩:=(a2.n1 Tryz.underlying3) W _ _ _ eo DQ Jh
 have fT:[a4]=_:=DU
 obtain rfl:a4=_:=(List.cons.inj fT).1
 obtain ⟨aJf,hL,XB,YX⟩:=a2.gn I 5 rfl rfl rfl Rf (r:=[nw]) rfl
 obtain ⟨d5,Ny,W6⟩:=(YE) W _ _ _ hL XB YX
 obtain ⟨wm,la,jw⟩:=a2.fY Ny
 obtain rfl:nw=_:=(List.cons.inj jw).1
 obtain ⟨aJg,ud,XC,YY⟩:=a2.gn I 6 rfl rfl rfl nC (r:=[mv]) rfl
 obtain ⟨d6,Yq,W7⟩:=(a2.n1 Tryz.underlying3) W _ _ _ ud XC YY
 have zR:[mv]=_:=Yq
 obtain rfl:mv=_:=(List.cons.inj zR).1
 exact ⟨⟨d0,d1,d2,d3,d4,d5,d6⟩,⟨ik,zH,wm,la,rfl,kE,Ny⟩,⟨ln,iL,kO,l2,uO,W6,W7⟩⟩
def Fl (N:Nat) (d:J.Kind):Prop:=a2.iX d.Kind/\d.aO.length<=N
theorem YD:a2.h1 Tryz.prog enc N 103 J.dw (Fl N):=by
 intro W n cs x h b0 hw
 obtain ⟨kz,az,I⟩:=a2.oJ Tryz.underlying103 h b0 hw
 replace az:=az.trans Lv
 obtain ⟨a0,ej,rfl⟩:=afY az
 obtain ⟨Bz,bJ,ig,iS⟩:=a2.gn I 0 rfl rfl rfl nC (r:=[a0]) rfl
 obtain ⟨d0,kE,ln⟩:=(a2.n1 Tryz.underlying3) W _ _ _ bJ ig iS
 have iE:[a0]=_:=kE
 obtain rfl:a0=_:=(List.cons.inj iE).1
 obtain ⟨BA,aB,hr,a5⟩:=a2.gn I 1 rfl rfl rfl xE (r:=[ej]) rfl
 obtain ⟨d1,j4,iL⟩:=(a2.yX Tryz.underlying9) W _ _ _ aB hr a5
 have bL:[ej]=_:=j4
 obtain rfl:ej=_:=(List.cons.inj bL).1
 exact ⟨⟨d0,d1⟩,rfl,⟨ln,iL⟩⟩
def Fk (N:Nat) (d:J.Field):Prop:=d.Name.length<=N/\Fl N d.Kind
theorem aHd:a2.h1 Tryz.prog enc N 105 J.aW (Fk N):=by
 intro W n cs x h b0 hw
 obtain ⟨kz,az,I⟩:=a2.oJ Tryz.underlying105 h b0 hw
 replace az:=az.trans acH
 obtain ⟨a0,ej,e9,rfl⟩:=aF4 az
 obtain ⟨Bz,bJ,ig,iS⟩:=a2.gn I 0 rfl rfl rfl xE (r:=[a0]) rfl
 obtain ⟨d0,kE,ln⟩:=(a2.yX Tryz.underlying9) W _ _ _ bJ ig iS
 have iE:[a0]=_:=kE
 obtain rfl:a0=_:=(List.cons.inj iE).1
 obtain ⟨BA,aB,hr,a5⟩:=a2.gn I 1 rfl rfl rfl Lv (r:=[ej,e9]) rfl
 obtain ⟨d1,j4,iL⟩:=YD W _ _ _ aB hr a5
 have bL:[ej,e9]=_:=j4
 simp only [List.cons.injEq,and_true] at bL
 obtain ⟨rfl,rfl⟩:=bL
 exact ⟨⟨d0,d1⟩,rfl,⟨ln,iL⟩⟩
theorem agy:a2.h1 Tryz.prog enc N 106 (a2.aH J.aW) (fun l=>l.length* 40 <=N/\ ∀ e5 ∈ l,Fk N e5):=by
 have h:=a2.rR (enc:=enc) (N:=N) Tryz.underlying106 acH (by decide) aHd
 rw [aiJ] at h
 exact h
theorem aHm:a2.h1 Tryz.prog enc N 130 (a2.aH J.dw) (fun l=>l.length* 24 <=N/\ ∀ e5 ∈ l,Fl N e5):=by
 have h:=a2.rR (enc:=enc) (N:=N) Tryz.underlying130 Lv (by decide) YD
 rw [aiI] at h
 exact h
def Qq (N:Nat) (d:J.Handler):Prop:=a2.iX d.From/\a2.iX d.To/\a2.iX d.gY/\d.aO.length<=N
theorem aHe:a2.h1 Tryz.prog enc N 150 J.er (Qq N):=by
 intro W n cs x h b0 hw
 obtain ⟨kz,az,I⟩:=a2.oJ Tryz.underlying150 h b0 hw
 replace az:=az.trans acM
 obtain ⟨a0,ej,e9,a3,rfl⟩:=afZ az
 obtain ⟨Bz,bJ,ig,iS⟩:=a2.gn I 0 rfl rfl rfl nC (r:=[a0]) rfl
 obtain ⟨d0,kE,ln⟩:=(a2.n1 Tryz.underlying3) W _ _ _ bJ ig iS
 have iE:[a0]=_:=kE
 obtain rfl:a0=_:=(List.cons.inj iE).1
 obtain ⟨BA,aB,hr,a5⟩:=a2.gn I 1 rfl rfl rfl nC (r:=[ej]) rfl
 obtain ⟨d1,j4,iL⟩:=(a2.n1 Tryz.underlying3) W _ _ _ aB hr a5
 have bL:[ej]=_:=j4
 obtain rfl:ej=_:=(List.cons.inj bL).1
 obtain ⟨PW,aR,mf,qz⟩:=a2.gn I 2 rfl rfl rfl nC (r:=[e9]) rfl
 obtain ⟨d2,nY,kO⟩:=(a2.n1 Tryz.underlying3) W _ _ _ aR mf qz
 have b8:[e9]=_:=nY
 obtain rfl:e9=_:=(List.cons.inj b8).1
 obtain ⟨PX,bT,s4,pk⟩:=a2.gn I 3 rfl rfl rfl xE (r:=[a3]) rfl
 obtain ⟨d3,nj,l2⟩:=(a2.yX Tryz.underlying9) W _ _ _ bT s4 pk
 have dR:[a3]=_:=nj
 obtain rfl:a3=_:=(List.cons.inj dR).1
 exact ⟨⟨d0,d1,d2,d3⟩,rfl,⟨ln,iL,kO,l2⟩⟩
theorem aHn:a2.h1 Tryz.prog enc N 131 (a2.aH J.er) (fun l=>l.length* 40 <=N/\ ∀ e5 ∈ l,Qq N e5):=by
 have h:=a2.rR (enc:=enc) (N:=N) Tryz.underlying131 acM (by decide) aHe
 rw [aiP] at h
 exact h
def KG (N:Nat) (d:J.Method):Prop:=d.Name.length<=N/\True/\(d.bK.length* 24 <=N/\ ∀ e5 ∈ d.bK,Fl N e5)/\Fl N d.Returns/\a2.iX d.cY/\a2.iX d.cX/\d.Code.length<=N/\(d.bN.length* 40 <=N/\ ∀ e5 ∈ d.bN,Qq N e5)
theorem aHh:a2.h1 Tryz.prog enc N 133 J.b' (KG N):=by
 intro W n cs x h b0 hw
 obtain ⟨kz,az,I⟩:=a2.oJ Tryz.underlying133 h b0 hw
 replace az:=az.trans acJ
 obtain ⟨a0,ej,e9,a3,a4,nw,mv,zE,Cg,rfl⟩:=aF7 az
 obtain ⟨Bz,bJ,ig,iS⟩:=a2.gn I 0 rfl rfl rfl xE (r:=[a0]) rfl
 obtain ⟨d0,kE,ln⟩:=(a2.yX Tryz.underlying9) W _ _ _ bJ ig iS
 have iE:[a0]=_:=kE
 obtain rfl:a0=_:=(List.cons.inj iE).1
 obtain ⟨BA,aB,hr,a5⟩:=a2.gn I 1 rfl rfl rfl akR (r:=[ej]) rfl
 obtain ⟨d1,j4,iL⟩:=(a2.aHj Tryz.underlying4) W _ _ _ aB hr a5
 have bL:[ej]=_:=j4
 obtain rfl:ej=_:=(List.cons.inj bL).1
 obtain ⟨PW,aR,mf,qz⟩:=a2.gn I 2 rfl rfl rfl akG (r:=[e9]) rfl
 obtain ⟨d2,nY,kO⟩:=(aHm) W _ _ _ aR mf qz
 obtain ⟨f_,eb,b8⟩:=a2.fY nY
 obtain rfl:e9=_:=(List.cons.inj b8).1
 obtain ⟨PX,bT,s4,pk⟩:=a2.gn I 3 rfl rfl rfl Lv (r:=[a3,a4]) rfl
 obtain ⟨d3,nj,l2⟩:=YD W _ _ _ bT s4 pk
 have dR:[a3,a4]=_:=nj
 simp only [List.cons.injEq,and_true] at dR
 obtain ⟨rfl,rfl⟩:=dR
 obtain ⟨ahT,eo,DQ,Jh⟩:=a2.gn I 4 rfl rfl rfl nC (r:=[nw]) rfl
 obtain ⟨d4,DU,uO⟩:=(a2.n1 Tryz.underlying3) W _ _ _ eo DQ Jh
 have fT:[nw]=_:=DU
 obtain rfl:nw=_:=(List.cons.inj fT).1
 obtain ⟨aJf,hL,XB,YX⟩:=a2.gn I 5 rfl rfl rfl nC (r:=[mv]) rfl
 obtain ⟨d5,Ny,W6⟩:=(a2.n1 Tryz.underlying3) W _ _ _ hL XB YX
 have jw:[mv]=_:=Ny
 obtain rfl:mv=_:=(List.cons.inj jw).1
 obtain ⟨aJg,ud,XC,YY⟩:=a2.gn I 6 rfl rfl rfl xE (r:=[zE]) rfl
 obtain ⟨d6,Yq,W7⟩:=(a2.yX Tryz.underlying9) W _ _ _ ud XC YY
 have zR:[zE]=_:=Yq
 obtain rfl:zE=_:=(List.cons.inj zR).1
 obtain ⟨aL_,zW,aGL,aIr⟩:=a2.gn I 7 rfl rfl rfl akH (r:=[Cg]) rfl
 obtain ⟨d7,ago,aFV⟩:=(aHn) W _ _ _ zW aGL aIr
 obtain ⟨aim,aji,ak4⟩:=a2.fY ago
 obtain rfl:Cg=_:=(List.cons.inj ak4).1
 exact ⟨⟨d0,d1,d2,d3,d4,d5,d6,d7⟩,⟨f_,eb,aim,aji,rfl,nY,ago⟩,⟨ln,iL,kO,l2,uO,W6,W7,aFV⟩⟩
theorem aHo:a2.h1 Tryz.prog enc N 134 (a2.aH J.b') (fun l=>l.length* 128 <=N/\ ∀ e5 ∈ l,KG N e5):=by
 have h:=a2.rR (enc:=enc) (N:=N) Tryz.underlying134 acJ (by decide) aHh
 rw [aiN] at h
 exact h
def Fj (N:Nat) (d:J.aO):Prop:=d.Name.length<=N/\d.b2.length<=N/\(d.Fields.length* 40 <=N/\ ∀ e5 ∈ d.Fields,Fk N e5)/\(d.aU.length* 128 <=N/\ ∀ e5 ∈ d.aU,KG N e5)
theorem aHc:a2.h1 Tryz.prog enc N 136 J.bc (Fj N):=by
 intro W n cs x h b0 hw
 obtain ⟨kz,az,I⟩:=a2.oJ Tryz.underlying136 h b0 hw
 replace az:=az.trans acK
 obtain ⟨a0,ej,e9,a3,rfl⟩:=afZ az
 obtain ⟨Bz,bJ,ig,iS⟩:=a2.gn I 0 rfl rfl rfl xE (r:=[a0]) rfl
 obtain ⟨d0,kE,ln⟩:=(a2.yX Tryz.underlying9) W _ _ _ bJ ig iS
 have iE:[a0]=_:=kE
 obtain rfl:a0=_:=(List.cons.inj iE).1
 obtain ⟨BA,aB,hr,a5⟩:=a2.gn I 1 rfl rfl rfl xE (r:=[ej]) rfl
 obtain ⟨d1,j4,iL⟩:=(a2.yX Tryz.underlying9) W _ _ _ aB hr a5
 have bL:[ej]=_:=j4
 obtain rfl:ej=_:=(List.cons.inj bL).1
 obtain ⟨PW,aR,mf,qz⟩:=a2.gn I 2 rfl rfl rfl acI (r:=[e9]) rfl
 obtain ⟨d2,nY,kO⟩:=(agy) W _ _ _ aR mf qz
 obtain ⟨f_,eb,b8⟩:=a2.fY nY
 obtain rfl:e9=_:=(List.cons.inj b8).1
 obtain ⟨PX,bT,s4,pk⟩:=a2.gn I 3 rfl rfl rfl akI (r:=[a3]) rfl
 obtain ⟨d3,nj,l2⟩:=(aHo) W _ _ _ bT s4 pk
 obtain ⟨r_,fG,dR⟩:=a2.fY nj
 obtain rfl:a3=_:=(List.cons.inj dR).1
 exact ⟨⟨d0,d1,d2,d3⟩,⟨f_,eb,r_,fG,rfl,nY,nj⟩,⟨ln,iL,kO,l2⟩⟩
theorem aHp:a2.h1 Tryz.prog enc N 25 (a2.aH J.bc) (fun l=>l.length* 80 <=N/\ ∀ e5 ∈ l,Fj N e5):=by
 have h:=a2.rR (enc:=enc) (N:=N) Tryz.underlying25 acK (by decide) aHc
 rw [aiO] at h
 exact h
theorem aHq:a2.h1 Tryz.prog enc N 26 (a2.aH (a2.aH J.aW)) (fun l=>l.length* 24 <=N/\ ∀ e5 ∈ l,(e5.length* 40 <=N/\ ∀ j9 ∈ e5,Fk N j9)):=by
 have h:=a2.rR (enc:=enc) (N:=N) Tryz.underlying26 acI (by decide) (agy)
 rw [aiK] at h
 exact h
theorem aHk:a2.h1 Tryz.prog enc N 125 (a2.aH a2.bF) (fun l=>l.length* 16 <=N/\ ∀ e5 ∈ l,e5.length<=N):=by
 have h:=a2.rR (enc:=enc) (N:=N) Tryz.underlying125 xE (by decide) (a2.yX Tryz.underlying9)
 rw [aiS] at h
 exact h
theorem aHr:a2.h1 Tryz.prog enc N 27 (a2.aH (a2.aH a2.bF)) (fun l=>l.length* 24 <=N/\ ∀ e5 ∈ l,(e5.length* 16 <=N/\ ∀ j9 ∈ e5,j9.length<=N)):=by
 have h:=a2.rR (enc:=enc) (N:=N) Tryz.underlying27 akE (by decide) (aHk)
 rw [aiL] at h
 exact h
def KH (N:Nat) (d:J.Target):Prop:=a2.iX d.aO/\a2.iX d.Method
theorem aHi:a2.h1 Tryz.prog enc N 159 J.bV (KH N):=by
 intro W n cs x h b0 hw
 obtain ⟨kz,az,I⟩:=a2.oJ Tryz.underlying159 h b0 hw
 replace az:=az.trans acO
 obtain ⟨a0,ej,rfl⟩:=afY az
 obtain ⟨Bz,bJ,ig,iS⟩:=a2.gn I 0 rfl rfl rfl nC (r:=[a0]) rfl
 obtain ⟨d0,kE,ln⟩:=(a2.n1 Tryz.underlying3) W _ _ _ bJ ig iS
 have iE:[a0]=_:=kE
 obtain rfl:a0=_:=(List.cons.inj iE).1
 obtain ⟨BA,aB,hr,a5⟩:=a2.gn I 1 rfl rfl rfl nC (r:=[ej]) rfl
 obtain ⟨d1,j4,iL⟩:=(a2.n1 Tryz.underlying3) W _ _ _ aB hr a5
 have bL:[ej]=_:=j4
 obtain rfl:ej=_:=(List.cons.inj bL).1
 exact ⟨⟨d0,d1⟩,rfl,⟨ln,iL⟩⟩
theorem aHl:a2.h1 Tryz.prog enc N 126 (a2.aH J.bV) (fun l=>l.length* 16 <=N/\ ∀ e5 ∈ l,KH N e5):=by
 have h:=a2.rR (enc:=enc) (N:=N) Tryz.underlying126 acO (by decide) aHi
 rw [aiQ] at h
 exact h
theorem aHs:a2.h1 Tryz.prog enc N 28 (a2.aH (a2.aH J.bV)) (fun l=>l.length* 24 <=N/\ ∀ e5 ∈ l,(e5.length* 16 <=N/\ ∀ j9 ∈ e5,KH N j9)):=by
 have h:=a2.rR (enc:=enc) (N:=N) Tryz.underlying28 akF (by decide) (aHl)
 rw [aiM] at h
 exact h
def KF (N:Nat) (d:J.bt):Prop:=(d.aG.length* 80 <=N/\ ∀ e5 ∈ d.aG,Fj N e5)/\(d.aE.length* 8 <=N/\ ∀ e5 ∈ d.aE,a2.iX e5)/\(d.Fields.length* 24 <=N/\ ∀ e5 ∈ d.Fields,(e5.length* 40 <=N/\ ∀ j9 ∈ e5,Fk N j9))/\(d.Names.length* 24 <=N/\ ∀ e5 ∈ d.Names,(e5.length* 16 <=N/\ ∀ j9 ∈ e5,j9.length<=N))/\(d.aD.length* 24 <=N/\ ∀ e5 ∈ d.aD,(e5.length* 16 <=N/\ ∀ j9 ∈ e5,KH N j9))
theorem aHg:a2.h1 Tryz.prog enc N 30 J.aIl (KF N):=by
 intro W n cs x h b0 hw
 obtain ⟨kz,az,I⟩:=a2.oJ Tryz.underlying30 h b0 hw
 replace az:=az.trans akQ
 obtain ⟨a0,ej,e9,a3,a4,rfl⟩:=aF5 az
 obtain ⟨Bz,bJ,ig,iS⟩:=a2.gn I 0 rfl rfl rfl akM (r:=[a0]) rfl
 obtain ⟨d0,kE,ln⟩:=(aHp) W _ _ _ bJ ig iS
 obtain ⟨ik,zH,iE⟩:=a2.fY kE
 obtain rfl:a0=_:=(List.cons.inj iE).1
 obtain ⟨BA,aB,hr,a5⟩:=a2.gn I 1 rfl rfl rfl Rf (r:=[ej]) rfl
 obtain ⟨d1,j4,iL⟩:=(YE) W _ _ _ aB hr a5
 obtain ⟨fZ,d_,bL⟩:=a2.fY j4
 obtain rfl:ej=_:=(List.cons.inj bL).1
 obtain ⟨PW,aR,mf,qz⟩:=a2.gn I 2 rfl rfl rfl akN (r:=[e9]) rfl
 obtain ⟨d2,nY,kO⟩:=(aHq) W _ _ _ aR mf qz
 obtain ⟨f_,eb,b8⟩:=a2.fY nY
 obtain rfl:e9=_:=(List.cons.inj b8).1
 obtain ⟨PX,bT,s4,pk⟩:=a2.gn I 3 rfl rfl rfl akO (r:=[a3]) rfl
 obtain ⟨d3,nj,l2⟩:=(aHr) W _ _ _ bT s4 pk
 obtain ⟨r_,fG,dR⟩:=a2.fY nj
 obtain rfl:a3=_:=(List.cons.inj dR).1
 obtain ⟨ahT,eo,DQ,Jh⟩:=a2.gn I 4 rfl rfl rfl akP (r:=[a4]) rfl
 obtain ⟨d4,DU,uO⟩:=(aHs) W _ _ _ eo DQ Jh
 obtain ⟨wk,iZ,fT⟩:=a2.fY DU
 obtain rfl:a4=_:=(List.cons.inj fT).1
 exact ⟨⟨d0,d1,d2,d3,d4⟩,⟨ik,zH,fZ,d_,f_,eb,r_,fG,wk,iZ,rfl,kE,j4,nY,nj,DU⟩,⟨ln,iL,kO,l2,uO⟩⟩
end
end Go.Proofs.YtpkhpagplommoaaGreat
namespace J
def gC (bS:Int) (lu:Int) (lv:Int):Option (Bool):=
 some ((decide (lu<=bS)) && (decide (bS<=lv)))
def mZ (bS:Int) (lu:Int) (lv:Int):Option (Bool):=
 some ((decide (lu<=bS)) && (decide (bS<=lv)))
def Mo (aa:Int):Option (Bool):=
 some ((decide (aa= 3)) || (decide (aa= 4)))
def AM (oZ:List UInt8):Nat->Int->Option (Way (Bool) (Unit))
 | 0,_=>none
 | bw+ 1,qj=>
   cond (decide (qj <(oZ.length:Int))) ((idx oZ qj).bind fun mm=>
   cond (((((decide ((mm.toNat:Int) < 97)) || (decide (122 <(mm.toNat:Int)))) && ((decide ((mm.toNat:Int) < 65)) || (decide (90 <(mm.toNat:Int))))) && ((decide ((mm.toNat:Int) < 48)) || (decide (57 <(mm.toNat:Int))))) && (!decide ((mm.toNat:Int)= 95))) (some (.out false)) (AM oZ bw (av (qj+ 1)))) (some (.go ()))
def nP (F:Nat) (s_:List UInt8):Option (Bool):=
 (bytesOf s_).bind fun oZ=>
 dv (α:=Unit) (AM oZ F 0) fun (_:Unit)=>
 some ((!decide (s_= [])) && (decide ((s_.length:Int)<= 20)))
def uN (F:Nat) (aa:Kind):Option (Bool):=
 (Mo aa.Kind).bind fun A3=>
 cond (A3) ((nP F aa.aO).bind fun A5=>
 some A5) (some (((decide (aa.Kind= 1)) || (decide (aa.Kind= 2))) && (decide (aa.aO= []))))
def qQ (s_:List UInt8):Nat->Int->Option (Way (Bool) (Unit))
 | 0,_=>none
 | bw+ 1,qc=>
   cond (decide (qc <(s_.length:Int))) ((idx s_ qc).bind fun lN=>
   cond (!(((((decide (97 <=(lN.toNat:Int))) && (decide ((lN.toNat:Int)<= 122))) || ((decide (65 <=(lN.toNat:Int))) && (decide ((lN.toNat:Int)<= 90)))) || ((decide (48 <=(lN.toNat:Int))) && (decide ((lN.toNat:Int)<= 57)))) || (decide ((lN.toNat:Int)= 95)))) (some (.out false)) (qQ s_ bw (av (qc+ 1)))) (some (.go ()))
def oo (F:Nat) (s_:List UInt8):Option (Bool):=
 dv (α:=Unit) (qQ s_ F 0) fun (_:Unit)=>
 some ((decide (1 <=(s_.length:Int))) && (decide ((s_.length:Int)<= 20)))
def tC (F:Nat) (aa:Kind):Option (Bool):=
 cond ((decide (aa.Kind= 1)) || (decide (aa.Kind= 2))) (some (decide (aa.aO= []))) (cond ((decide (aa.Kind= 3)) || (decide (aa.Kind= 4))) ((oo F aa.aO).bind fun ih=>
 some ih) (some false))
end J
namespace Go.Proofs.YtpkhpagplommoaaGreat
open Go Go.RowKit a2
set_option maxHeartbeats 4000000
set_option maxRecDepth 20000
theorem nB {W:World} {X:List Nat} {bS:Int} {lu:Int} {lv:Int} {r:Bool} {M0:List Nat} (hm:aw W M0 X W [] []) (h:J.gC bS lu lv=some r) :
 Calls Tryz.prog 41 [.i bS,.i lu,.i lv].toArray W (fun e aF=>e= .returned (.bool r)/\aw W M0 X aF [] []):=by
 refine enter Tryz.func41 rfl Tryz.ntmps41 rfl fun a I=>?_;rw [J.gC] at h;refine bd [] [] I fun a I=>bu [0,0,0,0] [(6,.bool ((decide (lu<=bS)) && (decide (bS<=lv))))] I fun a I=>wp_ret ?_;obtain rfl:=aC h;refine bq Tryz.results41 I rfl ?_;exact ⟨rfl,hm.aX [] []⟩
theorem xD {W:World} {X:List Nat} {bS:Int} {lu:Int} {lv:Int} {r:Bool} {M0:List Nat} (hm:aw W M0 X W [] []) (h:J.mZ bS lu lv=some r) :
 Calls Tryz.prog 145 [.i bS,.i lu,.i lv].toArray W (fun e aF=>e= .returned (.bool r)/\aw W M0 X aF [] []):=by
 refine enter Tryz.func145 rfl Tryz.ntmps145 rfl fun a I=>?_;rw [J.mZ] at h;refine bd [] [] I fun a I=>bu [0,0,0,0] [(6,.bool ((decide (lu<=bS)) && (decide (bS<=lv))))] I fun a I=>wp_ret ?_;obtain rfl:=aC h;refine bq Tryz.results145 I rfl ?_;exact ⟨rfl,hm.aX [] []⟩
theorem aj1 {W:World} {X:List Nat} {aa:Int} {r:Bool} {M0:List Nat} (hm:aw W M0 X W [] []) (h:J.Mo aa=some r) :
 Calls Tryz.prog 144 [.i aa].toArray W (fun e aF=>e= .returned (.bool r)/\aw W M0 X aF [] []):=by
 refine enter Tryz.func144 rfl Tryz.ntmps144 rfl fun a I=>?_;rw [J.Mo] at h;refine bd [] [] I fun a I=>bu [0,0,0] [(2,.bool ((decide (aa= 3)) || (decide (aa= 4))))] I fun a I=>wp_ret ?_;obtain rfl:=aC h;refine bq Tryz.results144 I rfl ?_;exact ⟨rfl,hm.aX [] []⟩
theorem xC {W:World} {X:List Nat} {F:Nat} {s_:List UInt8} {r:Bool} {M0:List Nat} (hm:aw W M0 X W [] []) (h:J.nP F s_=some r) :
 Calls Tryz.prog 130 [ao s_].toArray W (fun e aF=>e= .returned (.bool r)/\aw W M0 X aF [] []):=by
 refine enter Tryz.func130 rfl Tryz.ntmps130 rfl fun a I=>?_;rw [J.nP] at h;refine bd [] [] I fun a I=>wp_seq_k fun K bO=>wp_seq_k fun K cc=>aZ <| aN 1 [] [(5,ao s_)] I fun a I=>?_;obtain ⟨oZ,azS,h⟩:=J.aI h;refine aGs azS Tryz.underlying9 Tryz.underlying186 Tryz.underlying5 wn rfl (I.g rfl) I hm rfl rfl fun a aJ aQ w _ I hm=>aN 2 [] [(7,.i (oZ.length:Int)),(8,.i 0)] I fun a I=>wpList_nil (cc _ _ ?_);obtain ⟨Wa,h,TA⟩:=J.ei h
 refine cd (fun a w=>Fr ⟨46,[]⟩ [(0,ao s_)] a/\aw W M0 X w [] [U N3 aJ aQ oZ]/\Wa=(.go ())) (fun K cT=>?_) ?_
 · refine cB (fun (bw:Nat) a w=>∃ (qj:Int),Fr ⟨46,[]⟩ [(0,ao s_),(6,.q aJ aQ oZ),(7,.i (oZ.length:Int)),(8,.i qj)] a/\aw W M0 X w [] [U N3 aJ aQ oZ]/\J.AM oZ bw qj=some Wa) F ⟨0,I.cut,hm,h⟩ ?_ ?_
   · rintro a w ⟨qj,I,hm,h⟩;exact absurd h (by simp [J.AM])
   rintro bw a w ⟨qj,I,hm,h⟩ K cn;rw [J.AM] at h;refine bd [] [(9,.bool (decide (qj <(oZ.length:Int))))] I fun a I=>wp_seq_k fun K dm=>bn (I.g rfl) h (fun Ag h=>?_) (fun Ag h=>?_)
   · refine wp_skip <| dm _ _ <| wp_seq_k fun K cM=>wp_block <| wp_seq_k fun K dj=>aZ ?_;obtain ⟨mm,aEx,h⟩:=J.aI h;obtain ⟨anE,ayw,_,rfl,aud⟩:=b3 _ (hm.d 0 rfl) aEx;refine bU wn (bI Tryz.underlying186 Tryz.sizeOf5 rfl (I.g rfl) (I.g rfl) anE ayw) I rfl rfl fun a I=>bf 2 [0,0] [(4,.int .u8 (mm.toNat:Int))] [bG aJ,bH aJ+(qj).toNat* 1] (ay aud ax) I fun a I=>wpList_nil (dj _ _ ?_);refine wp_seq_k fun K df=>?_
     refine cg [0,0,0,0,0,0,0,0,0,0,0,0,0,0,0,0,0,0,0,0,0,0] [(37,.bool (((((decide ((mm.toNat:Int) < 97)) || (decide (122 <(mm.toNat:Int)))) && ((decide ((mm.toNat:Int) < 65)) || (decide (90 <(mm.toNat:Int))))) && ((decide ((mm.toNat:Int) < 48)) || (decide (57 <(mm.toNat:Int))))) && (!decide ((mm.toNat:Int)= 95))))] I fun a I=>df _ _ <| bn (I.g rfl) h (fun arL h=>?_) (fun arL h=>?_)
     · refine bu [] [(2,.bool false)] I fun a I=>wp_ret ?_;obtain rfl:=aC h;obtain rfl:=aC TA;refine a' (al (al (a' (al (al ?_)))));refine bq Tryz.results130 I rfl ?_;exact ⟨rfl,hm.aX [] []⟩
     refine wp_skip <| cM _ _ <| cg [] [(8,.i (J.av (qj+ 1)))] I fun a I=>?_;exact cn _ _ ⟨J.av (qj+ 1),I.cut,hm,h⟩
   refine wp_exit <| bC (bC (cv ?_));exact cT _ _ ⟨I.cut,hm,(os h)⟩
 rintro a w ⟨I,hm,bb⟩;subst Wa;have h:=TA;clear TA;dsimp only [J.ec] at h;refine bO _ _ <| bu [0,0,0,0] [(2,.bool ((!decide (s_= [])) && (decide ((s_.length:Int)<= 20))))] I fun a I=>wp_ret ?_;obtain rfl:=aC h;refine bq Tryz.results130 I rfl ?_;exact ⟨rfl,hm.aX [] []⟩
theorem Ls {W:World} {X:List Nat} {F:Nat} {aa:J.Kind} {r:Bool} {M0:List Nat} (hm:aw W M0 X W [] []) (h:J.uN F aa=some r) :
 Calls Tryz.prog 131 [.agg #[.i aa.Kind,ao aa.aO]].toArray W (fun e aF=>e= .returned (.bool r)/\aw W M0 X aF [] []):=by
 refine enter Tryz.func131 rfl Tryz.ntmps131 rfl fun a I=>?_;rw [J.uN] at h;refine wp_seq_k fun K c2=>aZ <| cz (cs:=[.i aa.Kind,ao aa.aO]) wn (ef rfl rfl (I.g rfl)) I hm rfl rfl fun a ba w _ I hm=>aN 1 [] [] I fun a I=>wpList_nil (c2 _ _ ?_);refine wp_seq_k fun K bO=>wp_seq_k fun K cc=>aZ <| bf 2 [0,0] [(4,.i aa.Kind)] [ba,0] (ay (a1 (hm.e 0 rfl)) ax) I fun a I=>?_;obtain ⟨A3,U9,h⟩:=J.aI h;have hc:=hm;refine bR (vs:=[.i aa.Kind]) wn rfl Tryz.call144 ⟨(I.g rfl),trivial⟩ (aj1 ((hc.into 0).pick trivial) U9) I rfl rfl ?_;rintro _ w ⟨rfl,af⟩
 refine ⟨_,rfl,fun a I=>?_⟩;have hm:=hc.back 0 af;clear af hc;refine wpList_nil <| cc _ _ <| bn (I.g rfl) h (fun uu h=>?_) (fun uu h=>?_)
 · refine wp_seq_k fun K cT=>aZ <| kH 2 [0,1] [(7,ao aa.aO)] [ba,1] (ay (a1 (hm.e 0 rfl)) ax) I fun a I=>?_;obtain ⟨A5,U',h⟩:=J.aI h;have hc:=hm;refine bR (vs:=[ao aa.aO]) wn rfl Tryz.call130 ⟨(I.g rfl),trivial⟩ (xC ((hc.into 0).pick trivial) U') I rfl rfl ?_;rintro _ w ⟨rfl,af⟩;refine ⟨_,rfl,fun a I=>?_⟩;have hm:=hc.back 0 af;clear af hc;refine ek 1 [] [(2,.bool A5)] I fun a I=>wpList_nil (cT _ _ ?_);refine wp_ret ?_;obtain rfl:=aC h;refine al <| bq Tryz.results131 I rfl ?_;exact ⟨rfl,hm.aX [] []⟩
 refine wp_skip <| bO _ _ <| wp_seq_k fun K cn=>rg [0,0,0,0,0,0,0,0,0,0,0,1,0,0] [(2,.bool (((decide (aa.Kind= 1)) || (decide (aa.Kind= 2))) && (decide (aa.aO= []))))] [ba,1,ba,0,ba,0] (ay (a1 (hm.e 0 rfl)) ax) I fun a I=>cn _ _ <| wp_ret ?_;obtain rfl:=aC h;refine bq Tryz.results131 I rfl ?_;exact ⟨rfl,hm.aX [] []⟩
theorem zQ {W:World} {X:List Nat} {F:Nat} {s_:List UInt8} {r:Bool} {M0:List Nat} (hm:aw W M0 X W [] []) (h:J.oo F s_=some r) :
 Calls Tryz.prog 146 [ao s_].toArray W (fun e aF=>e= .returned (.bool r)/\aw W M0 X aF [] []):=by
 refine enter Tryz.func146 rfl Tryz.ntmps146 rfl fun a I=>?_;rw [J.oo] at h;refine bd [] [] I fun a I=>wp_seq_k fun K bO=>bd [] [(3,.i 0)] I fun a I=>?_;obtain ⟨VL,h,Ta⟩:=J.ei h;refine cd (fun a w=>Fr ⟨49,[]⟩ [(0,ao s_)] a/\aw W M0 X w [] []/\VL=(.go ())) (fun K cT=>?_) ?_
 · refine cB (fun (bw:Nat) a w=>∃ (qc:Int),Fr ⟨49,[]⟩ [(0,ao s_),(3,.i qc)] a/\aw W M0 X w [] []/\J.qQ s_ bw qc=some VL) F ⟨0,I.cut,hm,h⟩ ?_ ?_
   · rintro a w ⟨qc,I,hm,h⟩;exact absurd h (by simp [J.qQ])
   rintro bw a w ⟨qc,I,hm,h⟩ K cn;rw [J.qQ] at h;refine wp_seq_k fun K dK=>bd [] [(8,.bool (decide (qc <(s_.length:Int))))] I fun a I=>bn (I.g rfl) h (fun uq h=>?_) (fun uq h=>?_)
   · refine wp_skip <| dK _ _ <| wp_seq_k fun K cM=>wp_block <| wp_seq_k fun K dj=>aZ <| aN 2 [] [(11,ao s_),(12,.i qc)] I fun a I=>?_;obtain ⟨lN,Mn,h⟩:=J.aI h;refine bU wn (aJA Tryz.underlying9 rfl (I.g rfl) (I.g rfl) Mn) I rfl rfl fun a I=>aN 1 [] [(4,.int .u8 (lN.toNat:Int))] I fun a I=>wpList_nil (dj _ _ ?_);refine wp_seq_k fun K df=>?_
     refine cg [0,0,0,0,0,0,0,0,0,0,0,0,0,0,0,0,0,0,0,0,0,0] [(40,.bool (!(((((decide (97 <=(lN.toNat:Int))) && (decide ((lN.toNat:Int)<= 122))) || ((decide (65 <=(lN.toNat:Int))) && (decide ((lN.toNat:Int)<= 90)))) || ((decide (48 <=(lN.toNat:Int))) && (decide ((lN.toNat:Int)<= 57)))) || (decide ((lN.toNat:Int)= 95)))))] I fun a I=>df _ _ <| bn (I.g rfl) h (fun rf h=>?_) (fun rf h=>?_)
     · refine bu [] [(2,.bool false)] I fun a I=>wp_ret ?_;obtain rfl:=aC h;obtain rfl:=aC Ta;refine a' (al (al (a' (al (al ?_)))));refine bq Tryz.results146 I rfl ?_;exact ⟨rfl,hm.aX [] []⟩
     refine wp_skip <| cM _ _ <| cg [] [(3,.i (J.av (qc+ 1)))] I fun a I=>?_;exact cn _ _ ⟨J.av (qc+ 1),I.cut,hm,h⟩
   refine wp_exit <| bC (bC (cv ?_));exact cT _ _ ⟨I.cut,hm,(os h)⟩
 rintro a w ⟨I,hm,bb⟩;subst VL;have h:=Ta;clear Ta;dsimp only [J.ec] at h;refine bO _ _ <| bu [0,0,0,0] [(2,.bool ((decide (1 <=(s_.length:Int))) && (decide ((s_.length:Int)<= 20))))] I fun a I=>wp_ret ?_;obtain rfl:=aC h;refine bq Tryz.results146 I rfl ?_;exact ⟨rfl,hm.aX [] []⟩
theorem Ln {W:World} {X:List Nat} {F:Nat} {aa:J.Kind} {r:Bool} {M0:List Nat} (hm:aw W M0 X W [] []) (h:J.tC F aa=some r) :
 Calls Tryz.prog 147 [.agg #[.i aa.Kind,ao aa.aO]].toArray W (fun e aF=>e= .returned (.bool r)/\aw W M0 X aF [] []):=by
 refine enter Tryz.func147 rfl Tryz.ntmps147 rfl fun a I=>?_;rw [J.tC] at h;refine wp_seq_k fun K c2=>aZ <| cz (cs:=[.i aa.Kind,ao aa.aO]) wn (ef rfl rfl (I.g rfl)) I hm rfl rfl fun a ba w _ I hm=>aN 1 [] [] I fun a I=>wpList_nil (c2 _ _ ?_);refine wp_seq_k fun K bO=>wp_seq_k fun K cc=>eH [0,0,0,0,0,0,0,0] [(10,.bool ((decide (aa.Kind= 1)) || (decide (aa.Kind= 2))))] [ba,0,ba,0] (ay (a1 (hm.e 0 rfl)) ax) I fun a I=>cc _ _ <| bn (I.g rfl) h (fun aqF h=>?_) (fun aqF h=>?_)
 · refine wp_seq_k fun K cT=>rg [0,1] [(2,.bool (decide (aa.aO= [])))] [ba,1] (ay (a1 (hm.e 0 rfl)) ax) I fun a I=>cT _ _ <| wp_ret ?_;obtain rfl:=aC h;refine al <| bq Tryz.results147 I rfl ?_;exact ⟨rfl,hm.aX [] []⟩
 refine wp_skip <| bO _ _ <| wp_seq_k fun K cn=>aZ <| bf 9 [0,0,0,0,0,0,0,0] [(22,.bool ((decide (aa.Kind= 3)) || (decide (aa.Kind= 4))))] [ba,0,ba,0] (ay (a1 (hm.e 0 rfl)) ax) I fun a I=>?_;rcases Bool.eq_false_or_eq_true ((decide (aa.Kind= 3)) || (decide (aa.Kind= 4))) with lf | lf
 · have h:=J.c5 lf h;have I:=I.b1 22 rfl lf;refine bf 2 [1,1,0,1] [(24,ao aa.aO)] [ba,1] (ay (a1 (hm.e 0 rfl)) ax) I fun a I=>?_;obtain ⟨ih,AF,h⟩:=J.aI h;have hc:=hm;refine bR (vs:=[ao aa.aO]) (cS I rfl rfl rfl rfl) rfl Tryz.call146 ⟨(I.g rfl),trivial⟩ (zQ ((hc.into 0).pick trivial) AF) I rfl rfl ?_;rintro _ w ⟨rfl,af⟩;refine ⟨_,rfl,fun a I=>?_⟩;have hm:=hc.back 0 af;clear af hc;refine ek 2 [1] [(2,.bool ih)] I fun a I=>wpList_nil (cn _ _ ?_);refine wp_ret ?_;obtain rfl:=aC h;refine bq Tryz.results147 I rfl ?_;exact ⟨rfl,hm.aX [] []⟩
 have h:=J.c4 lf h;have I:=I.b1 22 rfl lf;refine ek 5 [1,1,1,1] [(2,.bool false)] I fun a I=>wpList_nil (cn _ _ ?_);refine wp_ret ?_;obtain rfl:=aC h;refine bq Tryz.results147 I rfl ?_;exact ⟨rfl,hm.aX [] []⟩
end Go.Proofs.YtpkhpagplommoaaGreat
namespace J
def yk (F:Nat) (m_:Method):Nat->Int->Option (Way (Int) (Unit))
 | 0,_=>none
 | bw+ 1,qn=>
   cond (decide (qn <(m_.bK.length:Int))) ((idx m_.bK qn).bind fun r2=>
   (uN F (⟨r2.Kind,r2.aO⟩:Kind)).bind fun vI=>
   cond (!vI) (some (.out 7)) (yk F m_ bw (av (qn+ 1)))) (some (.go ()))
def yl (F:Nat) (m_:Method):Nat->Int->Option (Way (Int) (Unit))
 | 0,_=>none
 | c7+ 1,h'=>
   cond (decide (h' <(m_.bN.length:Int))) ((idx m_.bN h').bind fun jH=>
   (nP F jH.aO).bind fun IV=>
   cond (!IV) (some (.out 1)) ((mZ jH.From 0 200).bind fun kG=>
   cond (!kG) (some (.out 3)) ((mZ jH.To 0 200).bind fun DT=>
   cond (!DT) (some (.out 3)) ((mZ jH.gY 0 200).bind fun IW=>
   cond (!IW) (some (.out 3)) (yl F m_ c7 (av (h'+ 1))))))) (some (.go ()))
def ym (F:Nat) (m_:Method):Nat->Int->Option (Way (Int) (Unit))
 | 0,_=>none
 | eB+ 1,qg=>
   cond (decide (qg <(m_.bN.length:Int))) ((idx m_.bN qg).bind fun jI=>
   (nP F jI.aO).bind fun X5=>
   cond (!X5) (some (.out 1)) ((mZ jI.From 0 200).bind fun Nr=>
   cond (!Nr) (some (.out 3)) ((mZ jI.To 0 200).bind fun Ns=>
   cond (!Ns) (some (.out 3)) ((mZ jI.gY 0 200).bind fun X6=>
   cond (!X6) (some (.out 3)) (ym F m_ eB (av (qg+ 1))))))) (some (.go ()))
def AN (F:Nat) (m_:Method):Option (Int):=
 (nP F m_.Name).bind fun dA=>
 cond (!dA) (some 1) (cond (((decide (4 <(m_.bK.length:Int))) || (decide (200 <(m_.Code.length:Int)))) || (decide (4 <(m_.bN.length:Int)))) (some 2) ((mZ m_.cY 0 10).bind fun hs=>
 cond (!hs) (some 3) ((mZ m_.cX 0 10).bind fun mh=>
 cond (!mh) (some 3) (dv (α:=Unit) (yk F m_ F 0) fun (_:Unit)=>
 cond (!decide ((⟨m_.Returns.Kind,m_.Returns.aO⟩:Kind)=(⟨0,[]⟩:Kind))) ((uN F (⟨m_.Returns.Kind,m_.Returns.aO⟩:Kind)).bind fun Yv=>
 cond (!Yv) (some 7) (dv (α:=Unit) (yl F m_ F 0) fun (_:Unit)=>
 some 0)) (dv (α:=Unit) (ym F m_ F 0) fun (_:Unit)=>
 some 0)))))
def yg (F:Nat) (c_:aO):Nat->Int->Option (Way (Int) (Unit))
 | 0,_=>none
 | bw+ 1,eY=>
   cond (decide (eY <(c_.Fields.length:Int))) ((idx c_.Fields eY).bind fun mn=>
   (nP F mn.Name).bind fun A7=>
   cond (!A7) (some (.out 1)) ((uN F (⟨mn.Kind.Kind,mn.Kind.aO⟩:Kind)).bind fun kF=>
   cond (!kF) (some (.out 7)) (yg F c_ bw (av (eY+ 1))))) (some (.go ()))
def yh (F:Nat) (c_:aO):Nat->Int->Option (Way (Int) (Unit))
 | 0,_=>none
 | c7+ 1,h'=>
   cond (decide (h' <(c_.aU.length:Int))) ((idx c_.aU h').bind fun e6=>
   (AN F (⟨e6.Name,e6.Static,e6.bK,(⟨e6.Returns.Kind,e6.Returns.aO⟩:Kind),e6.cY,e6.cX,e6.Code,e6.bN⟩:Method)).bind fun kG=>
   cond (!decide (kG= 0)) (some (.out kG)) (yh F c_ c7 (av (h'+ 1)))) (some (.go ()))
def yi (F:Nat) (c_:aO):Nat->Int->Option (Way (Int) (Unit))
 | 0,_=>none
 | eB+ 1,qf=>
   cond (decide (qf <(c_.Fields.length:Int))) ((idx c_.Fields qf).bind fun mj=>
   (nP F mj.Name).bind fun XZ=>
   cond (!XZ) (some (.out 1)) ((uN F (⟨mj.Kind.Kind,mj.Kind.aO⟩:Kind)).bind fun X0=>
   cond (!X0) (some (.out 7)) (yi F c_ eB (av (qf+ 1))))) (some (.go ()))
def yj (F:Nat) (c_:aO):Nat->Int->Option (Way (Int) (Unit))
 | 0,_=>none
 | fB+ 1,qh=>
   cond (decide (qh <(c_.aU.length:Int))) ((idx c_.aU qh).bind fun e7=>
   (AN F (⟨e7.Name,e7.Static,e7.bK,(⟨e7.Returns.Kind,e7.Returns.aO⟩:Kind),e7.cY,e7.cX,e7.Code,e7.bN⟩:Method)).bind fun DV=>
   cond (!decide (DV= 0)) (some (.out DV)) (yj F c_ fB (av (qh+ 1)))) (some (.go ()))
def Il (F:Nat) (c_:aO):Option (Int):=
 (nP F c_.Name).bind fun dA=>
 cond (!dA) (some 1) (cond (!decide (c_.b2= [])) ((nP F c_.b2).bind fun hs=>
 cond (!hs) (some 1) (cond ((decide (6 <(c_.Fields.length:Int))) || (decide (8 <(c_.aU.length:Int)))) (some 2) (dv (α:=Unit) (yg F c_ F 0) fun (_:Unit)=>
 dv (α:=Unit) (yh F c_ F 0) fun (_:Unit)=>
 some 0))) (cond ((decide (6 <(c_.Fields.length:Int))) || (decide (8 <(c_.aU.length:Int)))) (some 2) (dv (α:=Unit) (yi F c_ F 0) fun (_:Unit)=>
 dv (α:=Unit) (yj F c_ F 0) fun (_:Unit)=>
 some 0)))
def yf (F:Nat) (aL:List aO):Nat->Int->Option (Way (Int) (Unit))
 | 0,_=>none
 | bw+ 1,qp=>
   cond (decide (qp <(aL.length:Int))) ((idx aL qp).bind fun iU=>
   (Il F (⟨iU.Name,iU.b2,iU.Fields,iU.aU⟩:aO)).bind fun DR=>
   cond (!decide (DR= 0)) (some (.out DR)) (yf F aL bw (av (qp+ 1)))) (some (.go ()))
def Ik (F:Nat) (aL:List aO):Option (Int):=
 cond (decide (10 <(aL.length:Int))) (some 2) (dv (α:=Unit) (yf F aL F 0) fun (_:Unit)=>
 some 0)
def wX (F:Nat) (m_:Method):Nat->Int->Option (Way (Int) (Unit))
 | 0,_=>none
 | bw+ 1,pc=>
   cond (decide (pc <(m_.bK.length:Int))) ((idx m_.bK pc).bind fun El=>
   (tC F El).bind fun Yu=>
   cond (!Yu) (some (.out 7)) (wX F m_ bw (av (pc+ 1)))) (some (.go ()))
def wY (F:Nat) (m_:Method):Nat->Int->Option (Way (Int) (Unit))
 | 0,_=>none
 | c7+ 1,o5=>
   cond (decide (o5 <(m_.bN.length:Int))) ((idx m_.bN o5).bind fun jG=>
   (oo F jG.aO).bind fun XU=>
   cond (!XU) (some (.out 1)) ((gC jG.From 0 200).bind fun Nn=>
   cond (!Nn) (some (.out 3)) ((gC jG.To 0 200).bind fun Np=>
   cond (!Np) (some (.out 3)) ((gC jG.gY 0 200).bind fun XV=>
   cond (!XV) (some (.out 3)) (wY F m_ c7 (av (o5+ 1))))))) (some (.go ()))
def zy (F:Nat) (m_:Method):Option (Int):=
 (oo F m_.Name).bind fun dA=>
 cond (!dA) (some 1) (cond (((decide (4 <(m_.bK.length:Int))) || (decide (200 <(m_.Code.length:Int)))) || (decide (4 <(m_.bN.length:Int)))) (some 2) ((gC m_.cY 0 10).bind fun hs=>
 cond (!hs) (some 3) ((gC m_.cX 0 10).bind fun mh=>
 cond (!mh) (some 3) (dv (α:=Unit) (wX F m_ F 0) fun (_:Unit)=>
 (tC F (⟨m_.Returns.Kind,m_.Returns.aO⟩:Kind)).bind fun j6=>
 cond ((!j6) && ((!decide (m_.Returns.Kind= 0)) || (!decide (m_.Returns.aO= [])))) (some 7) (dv (α:=Unit) (wY F m_ F 0) fun (_:Unit)=>
 some 0)))))
def wC (F:Nat) (cC:aO):Nat->Int->Option (Way (Int) (Unit))
 | 0,_=>none
 | c7+ 1,l9=>
   cond (decide (l9 <(cC.Fields.length:Int))) ((idx cC.Fields l9).bind fun OS=>
   (oo F OS.Name).bind fun Yj=>
   cond (!Yj) (some (.out 1)) ((idx cC.Fields l9).bind fun Bq=>
   (tC F (⟨Bq.Kind.Kind,Bq.Kind.aO⟩:Kind)).bind fun Yk=>
   cond (!Yk) (some (.out 7)) (wC F cC c7 (av (l9+ 1))))) (some (.go ()))
def wD (F:Nat) (cC:aO):Nat->Int->Option (Way (Int) (Unit))
 | 0,_=>none
 | eB+ 1,o'=>
   cond (decide (o' <(cC.aU.length:Int))) ((idx cC.aU o').bind fun jo=>
   (zy F jo).bind fun DX=>
   cond (!decide (DX= 0)) (some (.out DX)) (wD F cC eB (av (o'+ 1)))) (some (.go ()))
def wE (F:Nat) (cC:aO):Nat->Int->Option (Way (Int) (Unit))
 | 0,_=>none
 | fB+ 1,l_=>
   cond (decide (l_ <(cC.Fields.length:Int))) ((idx cC.Fields l_).bind fun OT=>
   (oo F OT.Name).bind fun Ym=>
   cond (!Ym) (some (.out 1)) ((idx cC.Fields l_).bind fun Br=>
   (tC F (⟨Br.Kind.Kind,Br.Kind.aO⟩:Kind)).bind fun Yn=>
   cond (!Yn) (some (.out 7)) (wE F cC fB (av (l_+ 1))))) (some (.go ()))
def wF (F:Nat) (cC:aO):Nat->Int->Option (Way (Int) (Unit))
 | 0,_=>none
 | h8+ 1,pa=>
   cond (decide (pa <(cC.aU.length:Int))) ((idx cC.aU pa).bind fun jp=>
   (zy F jp).bind fun DY=>
   cond (!decide (DY= 0)) (some (.out DY)) (wF F cC h8 (av (pa+ 1)))) (some (.go ()))
def wB (F:Nat) (aL:List aO):Nat->Int->Option (Way (Int) (Unit))
 | 0,_=>none
 | bw+ 1,jh=>
   cond (decide (jh <(aL.length:Int))) (eh (α:=Unit) ((idx aL jh).bind fun cC=>
   (oo F cC.Name).bind fun NA=>
   cond (!NA) (some (.out 1)) (cond (!decide (cC.b2= [])) ((oo F cC.b2).bind fun Yh=>
   cond (!Yh) (some (.out 1)) (cond ((decide (6 <(cC.Fields.length:Int))) || (decide (8 <(cC.aU.length:Int)))) (some (.out 2)) (eh (α:=Unit) (wC F cC F 0) fun (_:Unit)=>
   eh (α:=Unit) (wD F cC F 0) fun (_:Unit)=>
   some (.go ())))) (cond ((decide (6 <(cC.Fields.length:Int))) || (decide (8 <(cC.aU.length:Int)))) (some (.out 2)) (eh (α:=Unit) (wE F cC F 0) fun (_:Unit)=>
   eh (α:=Unit) (wF F cC F 0) fun (_:Unit)=>
   some (.go ()))))) fun (_:Unit)=>
   wB F aL bw (av (jh+ 1))) (some (.go ()))
def Fm (F:Nat) (aL:List aO):Option (Int):=
 cond (decide (10 <(aL.length:Int))) (some 2) (dv (α:=Unit) (wB F aL F 0) fun (_:Unit)=>
 some 0)
end J
namespace Go.Proofs.YtpkhpagplommoaaGreat
open Go Go.RowKit a2
set_option maxHeartbeats 4000000
set_option maxRecDepth 20000
theorem acs {W:World} {X:List Nat} {F:Nat} {m_:J.Method} {r:Int} {ag:aT} {ah:Nat} {aJ:aT} {aQ:Nat} {M0:List Nat} (hm:aw W M0 X W [] [U J.dw ag ah m_.bK,U J.er aJ aQ m_.bN]) (h:J.AN F m_=some r) :
 Calls Tryz.prog 132 [.agg #[ao m_.Name,.bool m_.Static,.q ag ah m_.bK,.i m_.Returns.Kind,ao m_.Returns.aO,.i m_.cY,.i m_.cX,ao m_.Code,.q aJ aQ m_.bN]].toArray W (fun e aF=>e= .returned (.i r)/\aw W M0 X aF [] []):=by
 refine enter Tryz.func132 rfl Tryz.ntmps132 rfl fun a I=>?_;rw [J.AN] at h;refine wp_seq_k fun K c2=>aZ <| cz (cs:=[ao m_.Name,.bool m_.Static,.q ag ah m_.bK,.i m_.Returns.Kind,ao m_.Returns.aO,.i m_.cY,.i m_.cX,ao m_.Code,.q aJ aQ m_.bN]) wn (ef rfl rfl (I.g rfl)) I hm rfl rfl fun a cR w _ I hm=>aN 1 [] [] I fun a I=>wpList_nil (c2 _ _ ?_);refine wp_seq_k fun K bO=>wp_block <| wp_seq_k fun K cc=>aZ <| bf 2 [0,0] [(9,ao m_.Name)] [cR,0] (ay (a1 (hm.e 0 rfl)) ax) I fun a I=>?_;obtain ⟨dA,uK,h⟩:=J.aI h;have hc:=hm
 refine bR (vs:=[ao m_.Name]) wn rfl Tryz.call130 ⟨(I.g rfl),trivial⟩ (xC ((hc.into 0).pick trivial) uK) I rfl rfl ?_;rintro _ w ⟨rfl,af⟩;refine ⟨_,rfl,fun a I=>?_⟩;have hm:=hc.back 0 af;clear af hc;refine aN 2 [] [(7,.bool (!dA))] I fun a I=>wpList_nil (cc _ _ ?_);refine bn (I.g rfl) h (fun lh h=>?_) (fun lh h=>?_)
 · refine bu [] [(2,.i 1)] I fun a I=>wp_ret ?_;obtain rfl:=aC h;refine a' (al ?_);refine bq Tryz.results132 I rfl ?_;exact ⟨rfl,hm.aX [] []⟩
 refine wp_seq_k fun K cn=>eH [0,2,0,0,0,7,0,0,0,0,0,0,8,0,0,0] [(12,.bool (((decide (4 <(m_.bK.length:Int))) || (decide (200 <(m_.Code.length:Int)))) || (decide (4 <(m_.bN.length:Int)))))] [cR,8,cR,7,cR,2] (ay (a1 (hm.e 0 rfl)) ax) I fun a I=>cn _ _ <| bn (I.g rfl) h (fun rh h=>?_) (fun rh h=>?_)
 · refine bu [] [(2,.i 2)] I fun a I=>wp_ret ?_;obtain rfl:=aC h;refine a' (al ?_);refine bq Tryz.results132 I rfl ?_;exact ⟨rfl,hm.aX [] []⟩
 refine wp_seq_k fun K dm=>aZ <| bf 2 [0,5] [(31,.i m_.cY)] [cR,5] (ay (a1 (hm.e 0 rfl)) ax) I fun a I=>?_;obtain ⟨hs,AB,h⟩:=J.aI h;have hc:=hm;refine bR (vs:=[.i m_.cY,.i 0,.i 10]) wn rfl Tryz.call145 ⟨(I.g rfl),(c0 _ _),(c0 _ _),trivial⟩ (xD ((hc.into 0).pick trivial) AB) I rfl rfl ?_;rintro _ w ⟨rfl,af⟩;refine ⟨_,rfl,fun a I=>?_⟩;have hm:=hc.back 0 af;clear af hc;refine aN 2 [] [(34,.bool (!hs))] I fun a I=>?_;rcases Bool.eq_false_or_eq_true (!hs) with gF | gF
 · have h:=J.c5 gF h;have I:=I.b1 34 rfl gF;refine aN 6 [1,1,1,1,1] [(29,.bool true)] I fun a I=>wpList_nil (dm _ _ ?_);refine eJ (I.g rfl) rfl <| bu [] [(2,.i 3)] I fun a I=>wp_ret ?_;obtain rfl:=aC h;refine a' (al ?_);refine bq Tryz.results132 I rfl ?_;exact ⟨rfl,hm.aX [] []⟩
 have h:=J.c4 gF h;have I:=I.b1 34 rfl gF;refine bf 2 [1,1,0,6] [(36,.i m_.cX)] [cR,6] (ay (a1 (hm.e 0 rfl)) ax) I fun a I=>?_;obtain ⟨mh,AC,h⟩:=J.aI h;have hc:=hm;refine bR (vs:=[.i m_.cX,.i 0,.i 10]) (cS I rfl rfl rfl rfl) rfl Tryz.call145 ⟨(I.g rfl),(c0 _ _),(c0 _ _),trivial⟩ (xD ((hc.into 0).pick trivial) AC) I rfl rfl ?_;rintro _ w ⟨rfl,af⟩;refine ⟨_,rfl,fun a I=>?_⟩;have hm:=hc.back 0 af;clear af hc;refine aN 3 [1,1] [(29,.bool (!mh))] I fun a I=>wpList_nil (dm _ _ ?_);refine bn (I.g rfl) h (fun jA h=>?_) (fun jA h=>?_)
 · refine bu [] [(2,.i 3)] I fun a I=>wp_ret ?_;obtain rfl:=aC h;refine a' (al ?_);refine bq Tryz.results132 I rfl ?_;exact ⟨rfl,hm.aX [] []⟩
 refine wp_skip <| bO _ _ <| wp_seq_k fun K df=>wp_seq_k fun K dy=>eH [0,2] [(41,.q ag ah m_.bK),(42,.i (m_.bK.length:Int)),(43,.i 0)] [cR,2] (ay (a1 (hm.e 0 rfl)) ax) I fun a I=>dy _ _ ?_;obtain ⟨Wy,h,T2⟩:=J.ei h;refine cd (fun a w=>Fr ⟨91,[]⟩ [(1,.aK cR)] a/\aw W M0 X w [ap.bm cR 133 [ao m_.Name,.bool m_.Static,.q ag ah m_.bK,.i m_.Returns.Kind,ao m_.Returns.aO,.i m_.cY,.i m_.cX,ao m_.Code,.q aJ aQ m_.bN]] [U J.dw ag ah m_.bK,U J.er aJ aQ m_.bN]/\Wy=(.go ())) (fun K dO=>?_) ?_
 · refine cB (fun (bw:Nat) a w=>∃ (qn:Int),Fr ⟨91,[]⟩ [(1,.aK cR),(41,.q ag ah m_.bK),(42,.i (m_.bK.length:Int)),(43,.i qn)] a/\aw W M0 X w [ap.bm cR 133 [ao m_.Name,.bool m_.Static,.q ag ah m_.bK,.i m_.Returns.Kind,ao m_.Returns.aO,.i m_.cY,.i m_.cX,ao m_.Code,.q aJ aQ m_.bN]] [U J.dw ag ah m_.bK,U J.er aJ aQ m_.bN]/\J.yk F m_ bw qn=some Wy) F ⟨0,I.cut,hm,h⟩ ?_ ?_
   · rintro a w ⟨qn,I,hm,h⟩;exact absurd h (by simp [J.yk])
   rintro bw a w ⟨qn,I,hm,h⟩ K dS;rw [J.yk] at h;refine bd [] [(44,.bool (decide (qn <(m_.bK.length:Int))))] I fun a I=>wp_seq_k fun K fa=>bn (I.g rfl) h (fun ar9 h=>?_) (fun ar9 h=>?_)
   · refine wp_skip <| fa _ _ <| wp_seq_k fun K gE=>wp_block <| wp_seq_k fun K hk=>aZ ?_;obtain ⟨r2,aE4,h⟩:=J.aI h;obtain ⟨aoa,ay4,_,rfl,auM⟩:=b3 _ (hm.d 0 rfl) aE4;refine bU wn (bI Tryz.underlying130 Tryz.sizeOf103 rfl (I.g rfl) (I.g rfl) aoa ay4) I rfl rfl fun a I=>bf 1 [0,0] [(46,.agg #[.i r2.Kind,ao r2.aO])] [bG ag,bH ag+(qn).toNat* 2] (ay auM ax) I fun a I=>cz (cs:=[.i 0,ao []]) wn (eL Tryz.zeroValue103 rfl rfl) I hm rfl rfl fun a alK w _ I hm=>cA (vs:=[.i r2.Kind,ao r2.aO]) 0 hm rfl wn rfl Tryz.sizeOf103 rfl rfl rfl rfl (I.g rfl) (I.g rfl) rfl fun w hm=>?_
     refine wpList_nil <| hk _ _ <| wp_seq_k fun K fx=>aZ <| bf 1 [0,0] [(47,.agg #[.i r2.Kind,ao r2.aO])] [alK,0] (ay (a1 (hm.e 0 rfl)) ax) I fun a I=>?_;obtain ⟨vI,Va,h⟩:=J.aI h;have hc:=hm;refine bR (vs:=[.agg #[.i r2.Kind,ao r2.aO]]) wn rfl Tryz.call131 ⟨(I.g rfl),trivial⟩ (Ls ((hc.into 0).pick trivial) Va) I rfl rfl ?_;rintro _ w ⟨rfl,af⟩;refine ⟨_,rfl,fun a I=>?_⟩;have hm:=hc.back 0 af;clear af hc
     refine aN 1 [] [(49,.bool (!vI))] I fun a I=>wpList_nil (fx _ _ ?_);refine bn (I.g rfl) h (fun Sd h=>?_) (fun Sd h=>?_)
     · refine bu [] [(2,.i 7)] I fun a I=>wp_ret ?_;obtain rfl:=aC h;obtain rfl:=aC T2;refine a' (al (al (a' (al (al ?_)))));refine bq Tryz.results132 I rfl ?_;exact ⟨rfl,hm.aX [] []⟩
     refine wp_skip <| gE _ _ <| cg [] [(43,.i (J.av (qn+ 1)))] I fun a I=>?_;exact dS _ _ ⟨J.av (qn+ 1),I.cut,(hm.k1 [1] rfl rfl),h⟩
   refine wp_exit <| bC (bC (cv ?_));exact dO _ _ ⟨I.cut,hm,(os h)⟩
 rintro a w ⟨I,hm,bb⟩;subst Wy;have h:=T2;clear T2;dsimp only [J.ec] at h;refine df _ _ <| wp_seq_k fun K fW=>wp_seq_k fun K gv=>aZ <| bf 2 [0,3] [(52,.agg #[.i m_.Returns.Kind,ao m_.Returns.aO])] [cR,3] (ay (a1 (hm.e 0 rfl)) ax) I fun a I=>bU wn (gm (vs:=[]) (cs:=[.i 0,ao []]) Tryz.zeroValue103 Tryz.underlying103 age rfl trivial (by kernel_rfl)) I rfl rfl fun a I=>bU wn (Gj (X:=m_.Returns) (Y:=(⟨0,[]⟩:J.Kind)) rfl (I.g rfl) (I.g rfl)) I rfl rfl fun a I=>aN 1 [] [(55,.bool (!decide (m_.Returns=(⟨0,[]⟩:J.Kind))))] I fun a I=>?_
 rcases Bool.eq_false_or_eq_true (!decide (m_.Returns=(⟨0,[]⟩:J.Kind))) with Ht | Ht
 · have h:=J.c5 Ht h;have I:=I.b1 55 rfl Ht;refine bf 2 [1,1,0,3] [(57,.agg #[.i m_.Returns.Kind,ao m_.Returns.aO])] [cR,3] (ay (a1 (hm.e 0 rfl)) ax) I fun a I=>?_;obtain ⟨Yv,aCm,h⟩:=J.aI h;have hc:=hm;refine bR (vs:=[.agg #[.i m_.Returns.Kind,ao m_.Returns.aO]]) (cS I rfl rfl rfl rfl) rfl Tryz.call131 ⟨(I.g rfl),trivial⟩ (Ls ((hc.into 0).pick trivial) aCm) I rfl rfl ?_;rintro _ w ⟨rfl,af⟩;refine ⟨_,rfl,fun a I=>?_⟩;have hm:=hc.back 0 af;clear af hc;refine aN 2 [1,1] [(60,.bool (!Yv))] I fun a I=>wpList_nil (gv _ _ ?_)
   refine bn (I.g rfl) h (fun asf h=>?_) (fun asf h=>?_)
   · refine bu [] [(2,.i 7)] I fun a I=>wp_ret ?_;obtain rfl:=aC h;refine al <| bq Tryz.results132 I rfl ?_;exact ⟨rfl,hm.aX [] []⟩
   refine wp_skip <| fW _ _ <| wp_seq_k fun K hM=>wp_seq_k fun K h6=>rg [0,8] [(62,.q aJ aQ m_.bN),(63,.i (m_.bN.length:Int)),(64,.i 0)] [cR,8] (ay (a1 (hm.e 0 rfl)) ax) I fun a I=>h6 _ _ ?_;obtain ⟨VJ,h,Da⟩:=J.ei h;refine cd (fun a w=>Fr ⟨91,[]⟩ [] a/\aw W M0 X w [ap.bm cR 133 [ao m_.Name,.bool m_.Static,.q ag ah m_.bK,.i m_.Returns.Kind,ao m_.Returns.aO,.i m_.cY,.i m_.cX,ao m_.Code,.q aJ aQ m_.bN]] [U J.dw ag ah m_.bK,U J.er aJ aQ m_.bN]/\VJ=(.go ())) (fun K hA=>?_) ?_
   · refine cB (fun (c7:Nat) a w=>∃ (h':Int),Fr ⟨91,[]⟩ [(62,.q aJ aQ m_.bN),(63,.i (m_.bN.length:Int)),(64,.i h')] a/\aw W M0 X w [ap.bm cR 133 [ao m_.Name,.bool m_.Static,.q ag ah m_.bK,.i m_.Returns.Kind,ao m_.Returns.aO,.i m_.cY,.i m_.cX,ao m_.Code,.q aJ aQ m_.bN]] [U J.dw ag ah m_.bK,U J.er aJ aQ m_.bN]/\J.yl F m_ c7 h'=some VJ) F ⟨0,I.cut,hm,h⟩ ?_ ?_
     · rintro a w ⟨h',I,hm,h⟩;exact absurd h (by simp [J.yl])
     rintro c7 a w ⟨h',I,hm,h⟩ K hB;rw [J.yl] at h;refine bd [] [(65,.bool (decide (h' <(m_.bN.length:Int))))] I fun a I=>wp_seq_k fun K jM=>bn (I.g rfl) h (fun aqk h=>?_) (fun aqk h=>?_)
     · refine wp_skip <| jM _ _ <| wp_seq_k fun K jy=>wp_block <| wp_seq_k fun K mI=>aZ ?_;obtain ⟨jH,aDr,h⟩:=J.aI h;obtain ⟨amq,axi,_,rfl,asY⟩:=b3 _ (hm.d 1 rfl) aDr;refine bU wn (bI Tryz.underlying131 Tryz.sizeOf150 rfl (I.g rfl) (I.g rfl) amq axi) I rfl rfl fun a I=>bf 1 [0,0] [(67,.agg #[.i jH.From,.i jH.To,.i jH.gY,ao jH.aO])] [bG aJ,bH aJ+(h').toNat* 4] (ay asY ax) I fun a I=>cz (cs:=[.i 0,.i 0,.i 0,ao []]) wn (eL Tryz.zeroValue150 rfl rfl) I hm rfl rfl fun a LL w _ I hm=>?_
       refine cA (vs:=[.i jH.From,.i jH.To,.i jH.gY,ao jH.aO]) 0 hm rfl wn rfl Tryz.sizeOf150 rfl rfl rfl rfl (I.g rfl) (I.g rfl) rfl fun w hm=>wpList_nil <| mI _ _ <| wp_block <| wp_seq_k fun K jN=>aZ <| bf 2 [0,3] [(70,ao jH.aO)] [LL,3] (ay (a1 (hm.e 0 rfl)) ax) I fun a I=>?_;obtain ⟨IV,aA8,h⟩:=J.aI h;have hc:=hm;refine bR (vs:=[ao jH.aO]) wn rfl Tryz.call130 ⟨(I.g rfl),trivial⟩ (xC ((hc.into 0).pick trivial) aA8) I rfl rfl ?_;rintro _ w ⟨rfl,af⟩;refine ⟨_,rfl,fun a I=>?_⟩;have ad:a7 [] _ w:=af.ev;have hm:=hc.back 0 af
       clear af hc;clear ad;refine aN 2 [] [(68,.bool (!IV))] I fun a I=>wpList_nil (jN _ _ ?_);refine bn (I.g rfl) h (fun aqr h=>?_) (fun aqr h=>?_)
       · refine bu [] [(2,.i 1)] I fun a I=>wp_ret ?_;obtain rfl:=aC h;obtain rfl:=aC Da;refine a' (a' (al (al (a' (al (al ?_))))));refine bq Tryz.results132 I rfl ?_;exact ⟨rfl,hm.aX [] []⟩
       refine wp_seq_k fun K kn=>aZ <| bf 2 [0,0] [(75,.i jH.From)] [LL,0] (ay (a1 (hm.e 0 rfl)) ax) I fun a I=>?_;obtain ⟨kG,UZ,h⟩:=J.aI h;have hc:=hm;refine bR (vs:=[.i jH.From,.i 0,.i 200]) wn rfl Tryz.call145 ⟨(I.g rfl),(c0 _ _),(c0 _ _),trivial⟩ (xD ((hc.into 0).pick trivial) UZ) I rfl rfl ?_;rintro _ w ⟨rfl,af⟩;refine ⟨_,rfl,fun a I=>?_⟩;have hm:=hc.back 0 af;clear af hc;refine aN 2 [] [(78,.bool (!kG))] I fun a I=>?_;rcases Bool.eq_false_or_eq_true (!kG) with Ab | Ab
       · have h:=J.c5 Ab h;have I:=I.b1 78 rfl Ab;refine aN 12 [1,1,1,1,1,1,1,1,1,1] [(73,.bool true)] I fun a I=>wpList_nil (kn _ _ ?_);refine eJ (I.g rfl) rfl <| bu [] [(2,.i 3)] I fun a I=>wp_ret ?_;obtain rfl:=aC h;obtain rfl:=aC Da;refine a' (a' (al (al (a' (al (al ?_))))));refine bq Tryz.results132 I rfl ?_;exact ⟨rfl,hm.aX [] []⟩
       have h:=J.c4 Ab h;have I:=I.b1 78 rfl Ab;refine bf 2 [1,1,0,1] [(80,.i jH.To)] [LL,1] (ay (a1 (hm.e 0 rfl)) ax) I fun a I=>?_;obtain ⟨DT,aA_,h⟩:=J.aI h;have hc:=hm;refine bR (vs:=[.i jH.To,.i 0,.i 200]) (cS I rfl rfl rfl rfl) rfl Tryz.call145 ⟨(I.g rfl),(c0 _ _),(c0 _ _),trivial⟩ (xD ((hc.into 0).pick trivial) aA_) I rfl rfl ?_;rintro _ w ⟨rfl,af⟩;refine ⟨_,rfl,fun a I=>?_⟩;have hm:=hc.back 0 af;clear af hc;refine aN 3 [1,1] [(84,.bool (!DT))] I fun a I=>?_;rcases Bool.eq_false_or_eq_true (!DT) with GU | GU
       · have h:=J.c5 GU h;have I:=I.b1 84 rfl GU;refine aN 6 [1,1,1,1,1] [(73,.bool true)] I fun a I=>wpList_nil (kn _ _ ?_);refine eJ (I.g rfl) rfl <| bu [] [(2,.i 3)] I fun a I=>wp_ret ?_;obtain rfl:=aC h;obtain rfl:=aC Da;refine a' (a' (al (al (a' (al (al ?_))))));refine bq Tryz.results132 I rfl ?_;exact ⟨rfl,hm.aX [] []⟩
       have h:=J.c4 GU h;have I:=I.b1 84 rfl GU;refine bf 2 [1,1,0,2] [(86,.i jH.gY)] [LL,2] (ay (a1 (hm.e 0 rfl)) ax) I fun a I=>?_;obtain ⟨IW,aA',h⟩:=J.aI h;have hc:=hm;refine bR (vs:=[.i jH.gY,.i 0,.i 200]) (cS I rfl rfl rfl rfl) rfl Tryz.call145 ⟨(I.g rfl),(c0 _ _),(c0 _ _),trivial⟩ (xD ((hc.into 0).pick trivial) aA') I rfl rfl ?_;rintro _ w ⟨rfl,af⟩;refine ⟨_,rfl,fun a I=>?_⟩;have hm:=hc.back 0 af;clear af hc;refine aN 3 [1,1] [(73,.bool (!IW))] I fun a I=>wpList_nil (kn _ _ ?_)
       refine bn (I.g rfl) h (fun aqu h=>?_) (fun aqu h=>?_)
       · refine bu [] [(2,.i 3)] I fun a I=>wp_ret ?_;obtain rfl:=aC h;obtain rfl:=aC Da;refine a' (a' (al (al (a' (al (al ?_))))));refine bq Tryz.results132 I rfl ?_;exact ⟨rfl,hm.aX [] []⟩
       refine wp_skip <| jy _ _ <| cg [] [(64,.i (J.av (h'+ 1)))] I fun a I=>?_;exact hB _ _ ⟨J.av (h'+ 1),I.cut,(hm.k1 [1] rfl rfl),h⟩
     refine wp_exit <| bC (bC (cv ?_));exact hA _ _ ⟨I.cut,hm,(os h)⟩
   rintro a w ⟨I,hm,bb⟩;subst VJ;have h:=Da;clear Da;dsimp only [J.ec] at h;refine hM _ _ <| bu [] [(2,.i 0)] I fun a I=>wp_ret ?_;obtain rfl:=aC h;refine bq Tryz.results132 I rfl ?_;exact ⟨rfl,hm.aX [] []⟩
 have h:=J.c4 Ht h;have I:=I.b1 55 rfl Ht;refine aN 5 [1,1,1,1,1] [(60,.bool false)] I fun a I=>wpList_nil (gv _ _ ?_);refine g2 (I.g rfl) rfl <| wp_skip <| fW _ _ <| wp_seq_k fun K oM=>wp_seq_k fun K lX=>rg [0,8] [(62,.q aJ aQ m_.bN),(63,.i (m_.bN.length:Int)),(64,.i 0)] [cR,8] (ay (a1 (hm.e 0 rfl)) ax) I fun a I=>lX _ _ ?_;obtain ⟨V7,h,Df⟩:=J.ei h
 refine cd (fun a w=>Fr ⟨91,[]⟩ [] a/\aw W M0 X w [ap.bm cR 133 [ao m_.Name,.bool m_.Static,.q ag ah m_.bK,.i m_.Returns.Kind,ao m_.Returns.aO,.i m_.cY,.i m_.cX,ao m_.Code,.q aJ aQ m_.bN]] [U J.dw ag ah m_.bK,U J.er aJ aQ m_.bN]/\V7=(.go ())) (fun K mJ=>?_) ?_
 · refine cB (fun (eB:Nat) a w=>∃ (qg:Int),Fr ⟨91,[]⟩ [(62,.q aJ aQ m_.bN),(63,.i (m_.bN.length:Int)),(64,.i qg)] a/\aw W M0 X w [ap.bm cR 133 [ao m_.Name,.bool m_.Static,.q ag ah m_.bK,.i m_.Returns.Kind,ao m_.Returns.aO,.i m_.cY,.i m_.cX,ao m_.Code,.q aJ aQ m_.bN]] [U J.dw ag ah m_.bK,U J.er aJ aQ m_.bN]/\J.ym F m_ eB qg=some V7) F ⟨0,I.cut,hm,h⟩ ?_ ?_
   · rintro a w ⟨qg,I,hm,h⟩;exact absurd h (by simp [J.ym])
   rintro eB a w ⟨qg,I,hm,h⟩ K ra;rw [J.ym] at h;refine bd [] [(65,.bool (decide (qg <(m_.bN.length:Int))))] I fun a I=>wp_seq_k fun K mK=>bn (I.g rfl) h (fun aqL h=>?_) (fun aqL h=>?_)
   · refine wp_skip <| mK _ _ <| wp_seq_k fun K uf=>wp_block <| wp_seq_k fun K rb=>aZ ?_;obtain ⟨jI,aDM,h⟩:=J.aI h;obtain ⟨amP,axH,_,rfl,atk⟩:=b3 _ (hm.d 1 rfl) aDM;refine bU wn (bI Tryz.underlying131 Tryz.sizeOf150 rfl (I.g rfl) (I.g rfl) amP axH) I rfl rfl fun a I=>bf 1 [0,0] [(67,.agg #[.i jI.From,.i jI.To,.i jI.gY,ao jI.aO])] [bG aJ,bH aJ+(qg).toNat* 4] (ay atk ax) I fun a I=>cz (cs:=[.i 0,.i 0,.i 0,ao []]) wn (eL Tryz.zeroValue150 rfl rfl) I hm rfl rfl fun a LN w _ I hm=>?_
     refine cA (vs:=[.i jI.From,.i jI.To,.i jI.gY,ao jI.aO]) 0 hm rfl wn rfl Tryz.sizeOf150 rfl rfl rfl rfl (I.g rfl) (I.g rfl) rfl fun w hm=>wpList_nil <| rb _ _ <| wp_block <| wp_seq_k fun K oN=>aZ <| bf 2 [0,3] [(70,ao jI.aO)] [LN,3] (ay (a1 (hm.e 0 rfl)) ax) I fun a I=>?_;obtain ⟨X5,aBn,h⟩:=J.aI h;have hc:=hm;refine bR (vs:=[ao jI.aO]) wn rfl Tryz.call130 ⟨(I.g rfl),trivial⟩ (xC ((hc.into 0).pick trivial) aBn) I rfl rfl ?_;rintro _ w ⟨rfl,af⟩;refine ⟨_,rfl,fun a I=>?_⟩;have ad:a7 [] _ w:=af.ev;have hm:=hc.back 0 af
     clear af hc;clear ad;refine aN 2 [] [(68,.bool (!X5))] I fun a I=>wpList_nil (oN _ _ ?_);refine bn (I.g rfl) h (fun aqM h=>?_) (fun aqM h=>?_)
     · refine bu [] [(2,.i 1)] I fun a I=>wp_ret ?_;obtain rfl:=aC h;obtain rfl:=aC Df;refine a' (a' (al (al (a' (al (al ?_))))));refine bq Tryz.results132 I rfl ?_;exact ⟨rfl,hm.aX [] []⟩
     refine wp_seq_k fun K mL=>aZ <| bf 2 [0,0] [(75,.i jI.From)] [LN,0] (ay (a1 (hm.e 0 rfl)) ax) I fun a I=>?_;obtain ⟨Nr,aBo,h⟩:=J.aI h;have hc:=hm;refine bR (vs:=[.i jI.From,.i 0,.i 200]) wn rfl Tryz.call145 ⟨(I.g rfl),(c0 _ _),(c0 _ _),trivial⟩ (xD ((hc.into 0).pick trivial) aBo) I rfl rfl ?_;rintro _ w ⟨rfl,af⟩;refine ⟨_,rfl,fun a I=>?_⟩;have hm:=hc.back 0 af;clear af hc;refine aN 2 [] [(78,.bool (!Nr))] I fun a I=>?_;rcases Bool.eq_false_or_eq_true (!Nr) with G3 | G3
     · have h:=J.c5 G3 h;have I:=I.b1 78 rfl G3;refine aN 12 [1,1,1,1,1,1,1,1,1,1] [(73,.bool true)] I fun a I=>wpList_nil (mL _ _ ?_);refine eJ (I.g rfl) rfl <| bu [] [(2,.i 3)] I fun a I=>wp_ret ?_;obtain rfl:=aC h;obtain rfl:=aC Df;refine a' (a' (al (al (a' (al (al ?_))))));refine bq Tryz.results132 I rfl ?_;exact ⟨rfl,hm.aX [] []⟩
     have h:=J.c4 G3 h;have I:=I.b1 78 rfl G3;refine bf 2 [1,1,0,1] [(80,.i jI.To)] [LN,1] (ay (a1 (hm.e 0 rfl)) ax) I fun a I=>?_;obtain ⟨Ns,aBp,h⟩:=J.aI h;have hc:=hm;refine bR (vs:=[.i jI.To,.i 0,.i 200]) (cS I rfl rfl rfl rfl) rfl Tryz.call145 ⟨(I.g rfl),(c0 _ _),(c0 _ _),trivial⟩ (xD ((hc.into 0).pick trivial) aBp) I rfl rfl ?_;rintro _ w ⟨rfl,af⟩;refine ⟨_,rfl,fun a I=>?_⟩;have hm:=hc.back 0 af;clear af hc;refine aN 3 [1,1] [(84,.bool (!Ns))] I fun a I=>?_;rcases Bool.eq_false_or_eq_true (!Ns) with G4 | G4
     · have h:=J.c5 G4 h;have I:=I.b1 84 rfl G4;refine aN 6 [1,1,1,1,1] [(73,.bool true)] I fun a I=>wpList_nil (mL _ _ ?_);refine eJ (I.g rfl) rfl <| bu [] [(2,.i 3)] I fun a I=>wp_ret ?_;obtain rfl:=aC h;obtain rfl:=aC Df;refine a' (a' (al (al (a' (al (al ?_))))));refine bq Tryz.results132 I rfl ?_;exact ⟨rfl,hm.aX [] []⟩
     have h:=J.c4 G4 h;have I:=I.b1 84 rfl G4;refine bf 2 [1,1,0,2] [(86,.i jI.gY)] [LN,2] (ay (a1 (hm.e 0 rfl)) ax) I fun a I=>?_;obtain ⟨X6,aBq,h⟩:=J.aI h;have hc:=hm;refine bR (vs:=[.i jI.gY,.i 0,.i 200]) (cS I rfl rfl rfl rfl) rfl Tryz.call145 ⟨(I.g rfl),(c0 _ _),(c0 _ _),trivial⟩ (xD ((hc.into 0).pick trivial) aBq) I rfl rfl ?_;rintro _ w ⟨rfl,af⟩;refine ⟨_,rfl,fun a I=>?_⟩;have hm:=hc.back 0 af;clear af hc;refine aN 3 [1,1] [(73,.bool (!X6))] I fun a I=>wpList_nil (mL _ _ ?_)
     refine bn (I.g rfl) h (fun aqP h=>?_) (fun aqP h=>?_)
     · refine bu [] [(2,.i 3)] I fun a I=>wp_ret ?_;obtain rfl:=aC h;obtain rfl:=aC Df;refine a' (a' (al (al (a' (al (al ?_))))));refine bq Tryz.results132 I rfl ?_;exact ⟨rfl,hm.aX [] []⟩
     refine wp_skip <| uf _ _ <| cg [] [(64,.i (J.av (qg+ 1)))] I fun a I=>?_;exact ra _ _ ⟨J.av (qg+ 1),I.cut,(hm.k1 [1] rfl rfl),h⟩
   refine wp_exit <| bC (bC (cv ?_));exact mJ _ _ ⟨I.cut,hm,(os h)⟩
 rintro a w ⟨I,hm,bb⟩;subst V7;have h:=Df;clear Df;dsimp only [J.ec] at h;refine oM _ _ <| bu [] [(2,.i 0)] I fun a I=>wp_ret ?_;obtain rfl:=aC h;refine bq Tryz.results132 I rfl ?_;exact ⟨rfl,hm.aX [] []⟩
theorem aj0 {W:World} {X:List Nat} {F:Nat} {c_:J.aO} {r:Int} {ag:aT} {ah:Nat} {aJ:aT} {aQ:Nat} {M0:List Nat} (hm:aw W M0 X W [] [U J.aW ag ah c_.Fields,U J.b' aJ aQ c_.aU]) (h:J.Il F c_=some r) :
 Calls Tryz.prog 98 [.agg #[ao c_.Name,ao c_.b2,.q ag ah c_.Fields,.q aJ aQ c_.aU]].toArray W (fun e aF=>e= .returned (.i r)/\aw W M0 X aF [] []):=by
 refine enter Tryz.func98 rfl Tryz.ntmps98 rfl fun a I=>?_;rw [J.Il] at h;refine wp_seq_k fun K c2=>aZ <| cz (cs:=[ao c_.Name,ao c_.b2,.q ag ah c_.Fields,.q aJ aQ c_.aU]) wn (ef rfl rfl (I.g rfl)) I hm rfl rfl fun a cR w _ I hm=>aN 1 [] [] I fun a I=>wpList_nil (c2 _ _ ?_);refine wp_seq_k fun K bO=>wp_block <| wp_seq_k fun K cc=>aZ <| bf 2 [0,0] [(10,ao c_.Name)] [cR,0] (ay (a1 (hm.e 0 rfl)) ax) I fun a I=>?_;obtain ⟨dA,uK,h⟩:=J.aI h;have hc:=hm
 refine bR (vs:=[ao c_.Name]) wn rfl Tryz.call130 ⟨(I.g rfl),trivial⟩ (xC ((hc.into 0).pick trivial) uK) I rfl rfl ?_;rintro _ w ⟨rfl,af⟩;refine ⟨_,rfl,fun a I=>?_⟩;have hm:=hc.back 0 af;clear af hc;refine aN 2 [] [(13,.bool (!dA))] I fun a I=>?_;rcases Bool.eq_false_or_eq_true (!dA) with lh | lh
 · have h:=J.c5 lh h;have I:=I.b1 13 rfl lh;refine aN 11 [1,1,1,1,1,1,1,1,1,1] [(8,.bool true)] I fun a I=>wpList_nil (cc _ _ ?_);refine eJ (I.g rfl) rfl <| bu [] [(2,.i 1)] I fun a I=>wp_ret ?_;obtain rfl:=aC h;refine a' (al ?_);refine bq Tryz.results98 I rfl ?_;exact ⟨rfl,hm.aX [] []⟩
 have h:=J.c4 lh h;have I:=I.b1 13 rfl lh;refine bf 4 [1,1,0,1,1,1] [(17,.bool (!decide (c_.b2= [])))] [cR,1] (ay (a1 (hm.e 0 rfl)) ax) I fun a I=>?_;rcases Bool.eq_false_or_eq_true (!decide (c_.b2= [])) with rh | rh
 · have h:=J.c5 rh h;have I:=I.b1 17 rfl rh;refine bf 2 [1,1,0,1] [(19,ao c_.b2)] [cR,1] (ay (a1 (hm.e 0 rfl)) ax) I fun a I=>?_;obtain ⟨hs,AB,h⟩:=J.aI h;have hc:=hm;refine bR (vs:=[ao c_.b2]) (cS I rfl rfl rfl rfl) rfl Tryz.call130 ⟨(I.g rfl),trivial⟩ (xC ((hc.into 0).pick trivial) AB) I rfl rfl ?_;rintro _ w ⟨rfl,af⟩;refine ⟨_,rfl,fun a I=>?_⟩;have hm:=hc.back 0 af;clear af hc;refine aN 4 [1,1,1,1] [(8,.bool (!hs))] I fun a I=>wpList_nil (cc _ _ ?_);refine bn (I.g rfl) h (fun gF h=>?_) (fun gF h=>?_)
   · refine bu [] [(2,.i 1)] I fun a I=>wp_ret ?_;obtain rfl:=aC h;refine a' (al ?_);refine bq Tryz.results98 I rfl ?_;exact ⟨rfl,hm.aX [] []⟩
   refine wp_seq_k fun K dK=>eH [0,2,0,0,0,3,0,0,0] [(24,.bool ((decide (6 <(c_.Fields.length:Int))) || (decide (8 <(c_.aU.length:Int)))))] [cR,3,cR,2] (ay (a1 (hm.e 0 rfl)) ax) I fun a I=>dK _ _ <| bn (I.g rfl) h (fun kp h=>?_) (fun kp h=>?_)
   · refine bu [] [(2,.i 2)] I fun a I=>wp_ret ?_;obtain rfl:=aC h;refine a' (al ?_);refine bq Tryz.results98 I rfl ?_;exact ⟨rfl,hm.aX [] []⟩
   refine wp_skip <| bO _ _ <| wp_seq_k fun K cM=>wp_seq_k fun K dj=>eH [0,2] [(36,.q ag ah c_.Fields),(37,.i (c_.Fields.length:Int)),(38,.i 0)] [cR,2] (ay (a1 (hm.e 0 rfl)) ax) I fun a I=>dj _ _ ?_;obtain ⟨AQ,h,x3⟩:=J.ei h;refine cd (fun a w=>Fr ⟨66,[]⟩ [(1,.aK cR)] a/\aw W M0 X w [ap.bm cR 136 [ao c_.Name,ao c_.b2,.q ag ah c_.Fields,.q aJ aQ c_.aU]] [U J.aW ag ah c_.Fields,U J.b' aJ aQ c_.aU]/\AQ=(.go ())) (fun K df=>?_) ?_
   · refine cB (fun (bw:Nat) a w=>∃ (eY:Int),Fr ⟨66,[]⟩ [(1,.aK cR),(36,.q ag ah c_.Fields),(37,.i (c_.Fields.length:Int)),(38,.i eY)] a/\aw W M0 X w [ap.bm cR 136 [ao c_.Name,ao c_.b2,.q ag ah c_.Fields,.q aJ aQ c_.aU]] [U J.aW ag ah c_.Fields,U J.b' aJ aQ c_.aU]/\J.yg F c_ bw eY=some AQ) F ⟨0,I.cut,hm,h⟩ ?_ ?_
     · rintro a w ⟨eY,I,hm,h⟩;exact absurd h (by simp [J.yg])
     rintro bw a w ⟨eY,I,hm,h⟩ K dy;rw [J.yg] at h;refine bd [] [(39,.bool (decide (eY <(c_.Fields.length:Int))))] I fun a I=>wp_seq_k fun K dS=>bn (I.g rfl) h (fun Hu h=>?_) (fun Hu h=>?_)
     · refine wp_skip <| dS _ _ <| wp_seq_k fun K fo=>wp_block <| wp_seq_k fun K fa=>aZ ?_;obtain ⟨mn,aFi,h⟩:=J.aI h;obtain ⟨aot,azj,_,rfl,au2⟩:=b3 _ (hm.d 0 rfl) aFi;refine bU wn (bI Tryz.underlying106 Tryz.sizeOf105 rfl (I.g rfl) (I.g rfl) aot azj) I rfl rfl fun a I=>bf 1 [0,0] [(41,.agg #[ao mn.Name,.i mn.Kind.Kind,ao mn.Kind.aO])] [bG ag,bH ag+(eY).toNat* 3] (ay au2 ax) I fun a I=>cz (cs:=[ao [],.i 0,ao []]) wn (eL Tryz.zeroValue105 rfl rfl) I hm rfl rfl fun a adv w _ I hm=>?_
       refine cA (vs:=[ao mn.Name,.i mn.Kind.Kind,ao mn.Kind.aO]) 0 hm rfl wn rfl Tryz.sizeOf105 rfl rfl rfl rfl (I.g rfl) (I.g rfl) rfl fun w hm=>wpList_nil <| fa _ _ <| wp_block <| wp_seq_k fun K gE=>aZ <| bf 2 [0,0] [(44,ao mn.Name)] [adv,0] (ay (a1 (hm.e 0 rfl)) ax) I fun a I=>?_;obtain ⟨A7,aCp,h⟩:=J.aI h;have hc:=hm;refine bR (vs:=[ao mn.Name]) wn rfl Tryz.call130 ⟨(I.g rfl),trivial⟩ (xC ((hc.into 0).pick trivial) aCp) I rfl rfl ?_;rintro _ w ⟨rfl,af⟩;refine ⟨_,rfl,fun a I=>?_⟩;have ad:a7 [] _ w:=af.ev;have hm:=hc.back 0 af
       clear af hc;clear ad;refine aN 2 [] [(42,.bool (!A7))] I fun a I=>wpList_nil (gE _ _ ?_);refine bn (I.g rfl) h (fun asi h=>?_) (fun asi h=>?_)
       · refine bu [] [(2,.i 1)] I fun a I=>wp_ret ?_;obtain rfl:=aC h;obtain rfl:=aC x3;refine a' (a' (al (al (a' (al (al ?_))))));refine bq Tryz.results98 I rfl ?_;exact ⟨rfl,hm.aX [] []⟩
       refine wp_seq_k fun K fx=>aZ <| bf 2 [0,1] [(49,.agg #[.i mn.Kind.Kind,ao mn.Kind.aO])] [adv,1] (ay (a1 (hm.e 0 rfl)) ax) I fun a I=>?_;obtain ⟨kF,UU,h⟩:=J.aI h;have hc:=hm;refine bR (vs:=[.agg #[.i mn.Kind.Kind,ao mn.Kind.aO]]) wn rfl Tryz.call131 ⟨(I.g rfl),trivial⟩ (Ls ((hc.into 0).pick trivial) UU) I rfl rfl ?_;rintro _ w ⟨rfl,af⟩;refine ⟨_,rfl,fun a I=>?_⟩;have hm:=hc.back 0 af;clear af hc;refine aN 2 [] [(47,.bool (!kF))] I fun a I=>wpList_nil (fx _ _ ?_);refine bn (I.g rfl) h (fun uo h=>?_) (fun uo h=>?_)
       · refine bu [] [(2,.i 7)] I fun a I=>wp_ret ?_;obtain rfl:=aC h;obtain rfl:=aC x3;refine a' (a' (al (al (a' (al (al ?_))))));refine bq Tryz.results98 I rfl ?_;exact ⟨rfl,hm.aX [] []⟩
       refine wp_skip <| fo _ _ <| cg [] [(38,.i (J.av (eY+ 1)))] I fun a I=>?_;exact dy _ _ ⟨J.av (eY+ 1),I.cut,(hm.k1 [1] rfl rfl),h⟩
     refine wp_exit <| bC (bC (cv ?_));exact df _ _ ⟨I.cut,hm,(os h)⟩
   rintro a w ⟨I,hm,bb⟩;subst AQ;have h:=x3;clear x3;dsimp only [J.ec] at h;refine cM _ _ <| wp_seq_k fun K fW=>wp_seq_k fun K gv=>rg [0,3] [(54,.q aJ aQ c_.aU),(55,.i (c_.aU.length:Int)),(56,.i 0)] [cR,3] (ay (a1 (hm.e 0 rfl)) ax) I fun a I=>gv _ _ ?_;obtain ⟨VK,h,S'⟩:=J.ei h;refine cd (fun a w=>Fr ⟨66,[]⟩ [] a/\aw W M0 X w [ap.bm cR 136 [ao c_.Name,ao c_.b2,.q ag ah c_.Fields,.q aJ aQ c_.aU]] [U J.aW ag ah c_.Fields,U J.b' aJ aQ c_.aU]/\VK=(.go ())) (fun K gQ=>?_) ?_
   · refine cB (fun (c7:Nat) a w=>∃ (h':Int),Fr ⟨66,[]⟩ [(54,.q aJ aQ c_.aU),(55,.i (c_.aU.length:Int)),(56,.i h')] a/\aw W M0 X w [ap.bm cR 136 [ao c_.Name,ao c_.b2,.q ag ah c_.Fields,.q aJ aQ c_.aU]] [U J.aW ag ah c_.Fields,U J.b' aJ aQ c_.aU]/\J.yh F c_ c7 h'=some VK) F ⟨0,I.cut,hm,h⟩ ?_ ?_
     · rintro a w ⟨h',I,hm,h⟩;exact absurd h (by simp [J.yh])
     rintro c7 a w ⟨h',I,hm,h⟩ K hM;rw [J.yh] at h;refine bd [] [(57,.bool (decide (h' <(c_.aU.length:Int))))] I fun a I=>wp_seq_k fun K hA=>bn (I.g rfl) h (fun aqj h=>?_) (fun aqj h=>?_)
     · refine wp_skip <| hA _ _ <| wp_seq_k fun K hB=>wp_block <| wp_seq_k fun K hC=>aZ ?_;obtain ⟨e6,aDp,h⟩:=J.aI h;obtain ⟨amo,axg,_,⟨EL,FF,wg,xo,rfl,avq,avr⟩,asX⟩:=b3 _ (hm.d 1 rfl) aDp;have hm:=hm.more (y:=U J.dw EL FF e6.bK) avq;have hm:=hm.more (y:=U J.er wg xo e6.bN) avr;refine bU wn (bI Tryz.underlying134 Tryz.sizeOf133 rfl (I.g rfl) (I.g rfl) amo axg) I rfl rfl fun a I=>?_
       refine bf 1 [0,0] [(59,.agg #[ao e6.Name,.bool e6.Static,.q EL FF e6.bK,.i e6.Returns.Kind,ao e6.Returns.aO,.i e6.cY,.i e6.cX,ao e6.Code,.q wg xo e6.bN])] [bG aJ,bH aJ+(h').toNat* 9] (ay asX ax) I fun a I=>cz (cs:=[ao [],.bool false,.slice none 0 0,.i 0,ao [],.i 0,.i 0,ao [],.slice none 0 0]) wn (eL Tryz.zeroValue133 rfl rfl) I hm rfl rfl fun a alA w _ I hm=>?_
       refine cA (vs:=[ao e6.Name,.bool e6.Static,.q EL FF e6.bK,.i e6.Returns.Kind,ao e6.Returns.aO,.i e6.cY,.i e6.cX,ao e6.Code,.q wg xo e6.bN]) 0 hm rfl wn rfl Tryz.sizeOf133 rfl rfl rfl rfl (I.g rfl) (I.g rfl) rfl fun w hm=>wpList_nil <| hC _ _ <| wp_seq_k fun K jM=>aZ ?_
       refine bf 1 [0,0] [(60,.agg #[ao e6.Name,.bool e6.Static,.q EL FF e6.bK,.i e6.Returns.Kind,ao e6.Returns.aO,.i e6.cY,.i e6.cX,ao e6.Code,.q wg xo e6.bN])] [alA,0] (ay (a1 (hm.e 0 rfl)) ax) I fun a I=>?_;obtain ⟨kG,UZ,h⟩:=J.aI h;have hc:=hm
       refine bR (vs:=[.agg #[ao e6.Name,.bool e6.Static,.q EL FF e6.bK,.i e6.Returns.Kind,ao e6.Returns.aO,.i e6.cY,.i e6.cX,ao e6.Code,.q wg xo e6.bN]]) wn rfl Tryz.call132 ⟨(I.g rfl),trivial⟩ (acs (m_:=e6) ((hc.into 0).pick ⟨⟨1,rfl⟩,⟨0,rfl⟩,trivial⟩) UZ) I rfl rfl ?_;rintro _ w ⟨rfl,af⟩;refine ⟨_,rfl,fun a I=>?_⟩;have hm:=hc.back 0 af;clear af hc
       refine aN 1 [] [(7,.i kG)] I fun a I=>wpList_nil (jM _ _ ?_);refine bd [] [(63,.bool (!decide (kG= 0)))] I fun a I=>bn (I.g rfl) h (fun Ab h=>?_) (fun Ab h=>?_)
       · refine bu [] [(2,.i kG)] I fun a I=>wp_ret ?_;obtain rfl:=aC h;obtain rfl:=aC S';refine a' (al (al (a' (al (al ?_)))));refine bq Tryz.results98 I rfl ?_;exact ⟨rfl,hm.aX [] []⟩
       refine wp_skip <| hB _ _ <| cg [] [(56,.i (J.av (h'+ 1)))] I fun a I=>?_;exact hM _ _ ⟨J.av (h'+ 1),I.cut,hm.aX [1] [2,3],h⟩
     refine wp_exit <| bC (bC (cv ?_));exact gQ _ _ ⟨I.cut,hm,(os h)⟩
   rintro a w ⟨I,hm,bb⟩;subst VK;have h:=S';clear S';dsimp only [J.ec] at h;refine fW _ _ <| bu [] [(2,.i 0)] I fun a I=>wp_ret ?_;obtain rfl:=aC h;refine bq Tryz.results98 I rfl ?_;exact ⟨rfl,hm.aX [] []⟩
 have h:=J.c4 rh h;have I:=I.b1 17 rfl rh;refine aN 7 [1,1,1,1,1,1,1] [(8,.bool false)] I fun a I=>wpList_nil (cc _ _ ?_);refine g2 (I.g rfl) rfl <| wp_seq_k fun K jO=>eH [0,2,0,0,0,3,0,0,0] [(24,.bool ((decide (6 <(c_.Fields.length:Int))) || (decide (8 <(c_.aU.length:Int)))))] [cR,3,cR,2] (ay (a1 (hm.e 0 rfl)) ax) I fun a I=>jO _ _ <| bn (I.g rfl) h (fun aqt h=>?_) (fun aqt h=>?_)
 · refine bu [] [(2,.i 2)] I fun a I=>wp_ret ?_;obtain rfl:=aC h;refine a' (al ?_);refine bq Tryz.results98 I rfl ?_;exact ⟨rfl,hm.aX [] []⟩
 refine wp_skip <| bO _ _ <| wp_seq_k fun K ko=>wp_seq_k fun K nL=>eH [0,2] [(36,.q ag ah c_.Fields),(37,.i (c_.Fields.length:Int)),(38,.i 0)] [cR,2] (ay (a1 (hm.e 0 rfl)) ax) I fun a I=>nL _ _ ?_;obtain ⟨V2,h,L5⟩:=J.ei h;refine cd (fun a w=>Fr ⟨66,[]⟩ [(1,.aK cR)] a/\aw W M0 X w [ap.bm cR 136 [ao c_.Name,ao c_.b2,.q ag ah c_.Fields,.q aJ aQ c_.aU]] [U J.aW ag ah c_.Fields,U J.b' aJ aQ c_.aU]/\V2=(.go ())) (fun K oL=>?_) ?_
 · refine cB (fun (eB:Nat) a w=>∃ (qf:Int),Fr ⟨66,[]⟩ [(1,.aK cR),(36,.q ag ah c_.Fields),(37,.i (c_.Fields.length:Int)),(38,.i qf)] a/\aw W M0 X w [ap.bm cR 136 [ao c_.Name,ao c_.b2,.q ag ah c_.Fields,.q aJ aQ c_.aU]] [U J.aW ag ah c_.Fields,U J.b' aJ aQ c_.aU]/\J.yi F c_ eB qf=some V2) F ⟨0,I.cut,hm,h⟩ ?_ ?_
   · rintro a w ⟨qf,I,hm,h⟩;exact absurd h (by simp [J.yi])
   rintro eB a w ⟨qf,I,hm,h⟩ K lW;rw [J.yi] at h;refine bd [] [(39,.bool (decide (qf <(c_.Fields.length:Int))))] I fun a I=>wp_seq_k fun K lX=>bn (I.g rfl) h (fun aqE h=>?_) (fun aqE h=>?_)
   · refine wp_skip <| lX _ _ <| wp_seq_k fun K mJ=>wp_block <| wp_seq_k fun K ra=>aZ ?_;obtain ⟨mj,aDH,h⟩:=J.aI h;obtain ⟨amI,axA,_,rfl,atd⟩:=b3 _ (hm.d 0 rfl) aDH;refine bU wn (bI Tryz.underlying106 Tryz.sizeOf105 rfl (I.g rfl) (I.g rfl) amI axA) I rfl rfl fun a I=>bf 1 [0,0] [(41,.agg #[ao mj.Name,.i mj.Kind.Kind,ao mj.Kind.aO])] [bG ag,bH ag+(qf).toNat* 3] (ay atd ax) I fun a I=>cz (cs:=[ao [],.i 0,ao []]) wn (eL Tryz.zeroValue105 rfl rfl) I hm rfl rfl fun a adm w _ I hm=>?_
     refine cA (vs:=[ao mj.Name,.i mj.Kind.Kind,ao mj.Kind.aO]) 0 hm rfl wn rfl Tryz.sizeOf105 rfl rfl rfl rfl (I.g rfl) (I.g rfl) rfl fun w hm=>wpList_nil <| ra _ _ <| wp_block <| wp_seq_k fun K zZ=>aZ <| bf 2 [0,0] [(44,ao mj.Name)] [adm,0] (ay (a1 (hm.e 0 rfl)) ax) I fun a I=>?_;obtain ⟨XZ,aBe,h⟩:=J.aI h;have hc:=hm;refine bR (vs:=[ao mj.Name]) wn rfl Tryz.call130 ⟨(I.g rfl),trivial⟩ (xC ((hc.into 0).pick trivial) aBe) I rfl rfl ?_;rintro _ w ⟨rfl,af⟩;refine ⟨_,rfl,fun a I=>?_⟩;have ad:a7 [] _ w:=af.ev;have hm:=hc.back 0 af
     clear af hc;clear ad;refine aN 2 [] [(42,.bool (!XZ))] I fun a I=>wpList_nil (zZ _ _ ?_);refine bn (I.g rfl) h (fun R6 h=>?_) (fun R6 h=>?_)
     · refine bu [] [(2,.i 1)] I fun a I=>wp_ret ?_;obtain rfl:=aC h;obtain rfl:=aC L5;refine a' (a' (al (al (a' (al (al ?_))))));refine bq Tryz.results98 I rfl ?_;exact ⟨rfl,hm.aX [] []⟩
     refine wp_seq_k fun K uf=>aZ <| bf 2 [0,1] [(49,.agg #[.i mj.Kind.Kind,ao mj.Kind.aO])] [adm,1] (ay (a1 (hm.e 0 rfl)) ax) I fun a I=>?_;obtain ⟨X0,aBf,h⟩:=J.aI h;have hc:=hm;refine bR (vs:=[.agg #[.i mj.Kind.Kind,ao mj.Kind.aO]]) wn rfl Tryz.call131 ⟨(I.g rfl),trivial⟩ (Ls ((hc.into 0).pick trivial) aBf) I rfl rfl ?_;rintro _ w ⟨rfl,af⟩;refine ⟨_,rfl,fun a I=>?_⟩;have hm:=hc.back 0 af;clear af hc;refine aN 2 [] [(47,.bool (!X0))] I fun a I=>wpList_nil (uf _ _ ?_);refine bn (I.g rfl) h (fun R7 h=>?_) (fun R7 h=>?_)
     · refine bu [] [(2,.i 7)] I fun a I=>wp_ret ?_;obtain rfl:=aC h;obtain rfl:=aC L5;refine a' (a' (al (al (a' (al (al ?_))))));refine bq Tryz.results98 I rfl ?_;exact ⟨rfl,hm.aX [] []⟩
     refine wp_skip <| mJ _ _ <| cg [] [(38,.i (J.av (qf+ 1)))] I fun a I=>?_;exact lW _ _ ⟨J.av (qf+ 1),I.cut,(hm.k1 [1] rfl rfl),h⟩
   refine wp_exit <| bC (bC (cv ?_));exact oL _ _ ⟨I.cut,hm,(os h)⟩
 rintro a w ⟨I,hm,bb⟩;subst V2;have h:=L5;clear L5;dsimp only [J.ec] at h;refine ko _ _ <| wp_seq_k fun K oN=>wp_seq_k fun K oO=>rg [0,3] [(54,.q aJ aQ c_.aU),(55,.i (c_.aU.length:Int)),(56,.i 0)] [cR,3] (ay (a1 (hm.e 0 rfl)) ax) I fun a I=>oO _ _ ?_;obtain ⟨Wd,h,TE⟩:=J.ei h;refine cd (fun a w=>Fr ⟨66,[]⟩ [] a/\aw W M0 X w [ap.bm cR 136 [ao c_.Name,ao c_.b2,.q ag ah c_.Fields,.q aJ aQ c_.aU]] [U J.aW ag ah c_.Fields,U J.b' aJ aQ c_.aU]/\Wd=(.go ())) (fun K mL=>?_) ?_
 · refine cB (fun (fB:Nat) a w=>∃ (qh:Int),Fr ⟨66,[]⟩ [(54,.q aJ aQ c_.aU),(55,.i (c_.aU.length:Int)),(56,.i qh)] a/\aw W M0 X w [ap.bm cR 136 [ao c_.Name,ao c_.b2,.q ag ah c_.Fields,.q aJ aQ c_.aU]] [U J.aW ag ah c_.Fields,U J.b' aJ aQ c_.aU]/\J.yj F c_ fB qh=some Wd) F ⟨0,I.cut,hm,h⟩ ?_ ?_
   · rintro a w ⟨qh,I,hm,h⟩;exact absurd h (by simp [J.yj])
   rintro fB a w ⟨qh,I,hm,h⟩ K sC;rw [J.yj] at h;refine bd [] [(57,.bool (decide (qh <(c_.aU.length:Int))))] I fun a I=>wp_seq_k fun K uh=>bn (I.g rfl) h (fun aqY h=>?_) (fun aqY h=>?_)
   · refine wp_skip <| uh _ _ <| wp_seq_k fun K sD=>wp_block <| wp_seq_k fun K ui=>aZ ?_;obtain ⟨e7,aD1,h⟩:=J.aI h;obtain ⟨am4,axW,_,⟨ET,FO,EU,FP,rfl,avI,avJ⟩,atz⟩:=b3 _ (hm.d 1 rfl) aD1;have hm:=hm.more (y:=U J.dw ET FO e7.bK) avI;have hm:=hm.more (y:=U J.er EU FP e7.bN) avJ;refine bU wn (bI Tryz.underlying134 Tryz.sizeOf133 rfl (I.g rfl) (I.g rfl) am4 axW) I rfl rfl fun a I=>?_
     refine bf 1 [0,0] [(59,.agg #[ao e7.Name,.bool e7.Static,.q ET FO e7.bK,.i e7.Returns.Kind,ao e7.Returns.aO,.i e7.cY,.i e7.cX,ao e7.Code,.q EU FP e7.bN])] [bG aJ,bH aJ+(qh).toNat* 9] (ay atz ax) I fun a I=>cz (cs:=[ao [],.bool false,.slice none 0 0,.i 0,ao [],.i 0,.i 0,ao [],.slice none 0 0]) wn (eL Tryz.zeroValue133 rfl rfl) I hm rfl rfl fun a alC w _ I hm=>?_
     refine cA (vs:=[ao e7.Name,.bool e7.Static,.q ET FO e7.bK,.i e7.Returns.Kind,ao e7.Returns.aO,.i e7.cY,.i e7.cX,ao e7.Code,.q EU FP e7.bN]) 0 hm rfl wn rfl Tryz.sizeOf133 rfl rfl rfl rfl (I.g rfl) (I.g rfl) rfl fun w hm=>wpList_nil <| ui _ _ <| wp_seq_k fun K xR=>aZ ?_
     refine bf 1 [0,0] [(60,.agg #[ao e7.Name,.bool e7.Static,.q ET FO e7.bK,.i e7.Returns.Kind,ao e7.Returns.aO,.i e7.cY,.i e7.cX,ao e7.Code,.q EU FP e7.bN])] [alC,0] (ay (a1 (hm.e 0 rfl)) ax) I fun a I=>?_;obtain ⟨DV,aBw,h⟩:=J.aI h;have hc:=hm
     refine bR (vs:=[.agg #[ao e7.Name,.bool e7.Static,.q ET FO e7.bK,.i e7.Returns.Kind,ao e7.Returns.aO,.i e7.cY,.i e7.cX,ao e7.Code,.q EU FP e7.bN]]) wn rfl Tryz.call132 ⟨(I.g rfl),trivial⟩ (acs (m_:=e7) ((hc.into 0).pick ⟨⟨1,rfl⟩,⟨0,rfl⟩,trivial⟩) aBw) I rfl rfl ?_;rintro _ w ⟨rfl,af⟩;refine ⟨_,rfl,fun a I=>?_⟩;have hm:=hc.back 0 af;clear af hc
     refine aN 1 [] [(7,.i DV)] I fun a I=>wpList_nil (xR _ _ ?_);refine bd [] [(63,.bool (!decide (DV= 0)))] I fun a I=>bn (I.g rfl) h (fun aq3 h=>?_) (fun aq3 h=>?_)
     · refine bu [] [(2,.i DV)] I fun a I=>wp_ret ?_;obtain rfl:=aC h;obtain rfl:=aC TE;refine a' (al (al (a' (al (al ?_)))));refine bq Tryz.results98 I rfl ?_;exact ⟨rfl,hm.aX [] []⟩
     refine wp_skip <| sD _ _ <| cg [] [(56,.i (J.av (qh+ 1)))] I fun a I=>?_;exact sC _ _ ⟨J.av (qh+ 1),I.cut,hm.aX [1] [2,3],h⟩
   refine wp_exit <| bC (bC (cv ?_));exact mL _ _ ⟨I.cut,hm,(os h)⟩
 rintro a w ⟨I,hm,bb⟩;subst Wd;have h:=TE;clear TE;dsimp only [J.ec] at h;refine oN _ _ <| bu [] [(2,.i 0)] I fun a I=>wp_ret ?_;obtain rfl:=aC h;refine bq Tryz.results98 I rfl ?_;exact ⟨rfl,hm.aX [] []⟩
theorem ajZ {W:World} {X:List Nat} {F:Nat} {aL:List J.aO} {r:Int} {ag:aT} {ah:Nat} {M0:List Nat} (hm:aw W M0 X W [] [U J.bc ag ah aL]) (h:J.Ik F aL=some r) :
 Calls Tryz.prog 73 [.q ag ah aL].toArray W (fun e aF=>e= .returned (.i r)/\aw W M0 X aF [] []):=by
 refine enter Tryz.func73 rfl Tryz.ntmps73 rfl fun a I=>?_;rw [J.Ik] at h;refine bd [] [] I fun a I=>wp_seq_k fun K bO=>bd [] [(8,.bool (decide (10 <(aL.length:Int))))] I fun a I=>bn (I.g rfl) h (fun lf h=>?_) (fun lf h=>?_)
 · refine bu [] [(2,.i 2)] I fun a I=>wp_ret ?_;obtain rfl:=aC h;refine al <| bq Tryz.results73 I rfl ?_;exact ⟨rfl,hm.aX [] []⟩
 refine wp_skip <| bO _ _ <| wp_seq_k fun K cn=>bu [] [(9,.q ag ah aL),(10,.i (aL.length:Int)),(11,.i 0)] I fun a I=>?_;obtain ⟨rs,h,rk⟩:=J.ei h;refine cd (fun a w=>Fr ⟨21,[]⟩ [] a/\aw W M0 X w [] [U J.bc ag ah aL]/\rs=(.go ())) (fun K dm=>?_) ?_
 · refine cB (fun (bw:Nat) a w=>∃ (qp:Int),Fr ⟨21,[]⟩ [(9,.q ag ah aL),(10,.i (aL.length:Int)),(11,.i qp)] a/\aw W M0 X w [] [U J.bc ag ah aL]/\J.yf F aL bw qp=some rs) F ⟨0,I.cut,hm,h⟩ ?_ ?_
   · rintro a w ⟨qp,I,hm,h⟩;exact absurd h (by simp [J.yf])
   rintro bw a w ⟨qp,I,hm,h⟩ K cM;rw [J.yf] at h;refine bd [] [(12,.bool (decide (qp <(aL.length:Int))))] I fun a I=>wp_seq_k fun K df=>bn (I.g rfl) h (fun lj h=>?_) (fun lj h=>?_)
   · refine wp_skip <| df _ _ <| wp_seq_k fun K dy=>wp_block <| wp_seq_k fun K dO=>aZ ?_;obtain ⟨iU,aFl,h⟩:=J.aI h;obtain ⟨aow,azm,_,⟨mo,mw,qE,qY,rfl,ava,avb⟩,au5⟩:=b3 _ (hm.d 0 rfl) aFl;have hm:=hm.more (y:=U J.aW mo mw iU.Fields) ava;have hm:=hm.more (y:=U J.b' qE qY iU.aU) avb;refine bU wn (bI Tryz.underlying25 Tryz.sizeOf136 rfl (I.g rfl) (I.g rfl) aow azm) I rfl rfl fun a I=>?_
     refine bf 1 [0,0] [(14,.agg #[ao iU.Name,ao iU.b2,.q mo mw iU.Fields,.q qE qY iU.aU])] [bG ag,bH ag+(qp).toNat* 4] (ay au5 ax) I fun a I=>cz (cs:=[ao [],ao [],.slice none 0 0,.slice none 0 0]) wn (eL Tryz.zeroValue136 rfl rfl) I hm rfl rfl fun a alx w _ I hm=>cA (vs:=[ao iU.Name,ao iU.b2,.q mo mw iU.Fields,.q qE qY iU.aU]) 0 hm rfl wn rfl Tryz.sizeOf136 rfl rfl rfl rfl (I.g rfl) (I.g rfl) rfl fun w hm=>wpList_nil <| dO _ _ <| wp_seq_k fun K dS=>aZ ?_
     refine bf 1 [0,0] [(15,.agg #[ao iU.Name,ao iU.b2,.q mo mw iU.Fields,.q qE qY iU.aU])] [alx,0] (ay (a1 (hm.e 0 rfl)) ax) I fun a I=>?_;obtain ⟨DR,aAE,h⟩:=J.aI h;have hc:=hm;refine bR (vs:=[.agg #[ao iU.Name,ao iU.b2,.q mo mw iU.Fields,.q qE qY iU.aU]]) wn rfl Tryz.call98 ⟨(I.g rfl),trivial⟩ (aj0 ((hc.into 0).pick ⟨⟨1,rfl⟩,⟨0,rfl⟩,trivial⟩) aAE) I rfl rfl ?_;rintro _ w ⟨rfl,af⟩;refine ⟨_,rfl,fun a I=>?_⟩;have hm:=hc.back 0 af;clear af hc
     refine aN 1 [] [(5,.i DR)] I fun a I=>wpList_nil (dS _ _ ?_);refine bd [] [(18,.bool (!decide (DR= 0)))] I fun a I=>bn (I.g rfl) h (fun apG h=>?_) (fun apG h=>?_)
     · refine bu [] [(2,.i DR)] I fun a I=>wp_ret ?_;obtain rfl:=aC h;obtain rfl:=aC rk;refine a' (al (al (a' (al (al ?_)))));refine bq Tryz.results73 I rfl ?_;exact ⟨rfl,hm.aX [] []⟩
     refine wp_skip <| dy _ _ <| cg [] [(11,.i (J.av (qp+ 1)))] I fun a I=>?_;exact cM _ _ ⟨J.av (qp+ 1),I.cut,hm.aX [] [2],h⟩
   refine wp_exit <| bC (bC (cv ?_));exact dm _ _ ⟨I.cut,hm,(os h)⟩
 rintro a w ⟨I,hm,bb⟩;subst rs;have h:=rk;clear rk;dsimp only [J.ec] at h;refine cn _ _ <| bu [] [(2,.i 0)] I fun a I=>wp_ret ?_;obtain rfl:=aC h;refine bq Tryz.results73 I rfl ?_;exact ⟨rfl,hm.aX [] []⟩
theorem ab' {W:World} {X:List Nat} {F:Nat} {m_:J.Method} {r:Int} {ag:aT} {ah:Nat} {aJ:aT} {aQ:Nat} {M0:List Nat} (hm:aw W M0 X W [] [U J.dw ag ah m_.bK,U J.er aJ aQ m_.bN]) (h:J.zy F m_=some r) :
 Calls Tryz.prog 148 [.agg #[ao m_.Name,.bool m_.Static,.q ag ah m_.bK,.i m_.Returns.Kind,ao m_.Returns.aO,.i m_.cY,.i m_.cX,ao m_.Code,.q aJ aQ m_.bN]].toArray W (fun e aF=>e= .returned (.i r)/\aw W M0 X aF [] []):=by
 refine enter Tryz.func148 rfl Tryz.ntmps148 rfl fun a I=>?_;rw [J.zy] at h;refine wp_seq_k fun K c2=>aZ <| cz (cs:=[ao m_.Name,.bool m_.Static,.q ag ah m_.bK,.i m_.Returns.Kind,ao m_.Returns.aO,.i m_.cY,.i m_.cX,ao m_.Code,.q aJ aQ m_.bN]) wn (ef rfl rfl (I.g rfl)) I hm rfl rfl fun a cR w _ I hm=>aN 1 [] [] I fun a I=>wpList_nil (c2 _ _ ?_);refine wp_seq_k fun K bO=>wp_seq_k fun K cc=>aZ <| bf 2 [0,0] [(7,ao m_.Name)] [cR,0] (ay (a1 (hm.e 0 rfl)) ax) I fun a I=>?_;obtain ⟨dA,uK,h⟩:=J.aI h;have hc:=hm
 refine bR (vs:=[ao m_.Name]) wn rfl Tryz.call146 ⟨(I.g rfl),trivial⟩ (zQ ((hc.into 0).pick trivial) uK) I rfl rfl ?_;rintro _ w ⟨rfl,af⟩;refine ⟨_,rfl,fun a I=>?_⟩;have hm:=hc.back 0 af;clear af hc;refine aN 1 [] [(9,.bool (!dA))] I fun a I=>wpList_nil (cc _ _ ?_);refine bn (I.g rfl) h (fun lh h=>?_) (fun lh h=>?_)
 · refine bu [] [(2,.i 1)] I fun a I=>wp_ret ?_;obtain rfl:=aC h;refine al <| bq Tryz.results148 I rfl ?_;exact ⟨rfl,hm.aX [] []⟩
 refine wp_skip <| bO _ _ <| wp_seq_k fun K cn=>wp_seq_k fun K dK=>eH [0,2,0,0,0,7,0,0,0,0,0,0,8,0,0,0] [(25,.bool (((decide (4 <(m_.bK.length:Int))) || (decide (200 <(m_.Code.length:Int)))) || (decide (4 <(m_.bN.length:Int)))))] [cR,8,cR,7,cR,2] (ay (a1 (hm.e 0 rfl)) ax) I fun a I=>dK _ _ <| bn (I.g rfl) h (fun rh h=>?_) (fun rh h=>?_)
 · refine bu [] [(2,.i 2)] I fun a I=>wp_ret ?_;obtain rfl:=aC h;refine al <| bq Tryz.results148 I rfl ?_;exact ⟨rfl,hm.aX [] []⟩
 refine wp_skip <| cn _ _ <| wp_seq_k fun K cM=>wp_seq_k fun K dj=>aZ <| bf 2 [0,5] [(27,.i m_.cY)] [cR,5] (ay (a1 (hm.e 0 rfl)) ax) I fun a I=>?_;obtain ⟨hs,AB,h⟩:=J.aI h;have hc:=hm;refine bR (vs:=[.i m_.cY,.i 0,.i 10]) wn rfl Tryz.call41 ⟨(I.g rfl),(c0 _ _),(c0 _ _),trivial⟩ (nB ((hc.into 0).pick trivial) AB) I rfl rfl ?_;rintro _ w ⟨rfl,af⟩;refine ⟨_,rfl,fun a I=>?_⟩;have hm:=hc.back 0 af;clear af hc;refine aN 2 [] [(30,.bool (!hs))] I fun a I=>?_;rcases Bool.eq_false_or_eq_true (!hs) with gF | gF
 · have h:=J.c5 gF h;have I:=I.b1 30 rfl gF;refine aN 5 [1,1,1,1,1] [(35,.bool true)] I fun a I=>wpList_nil (dj _ _ ?_);refine eJ (I.g rfl) rfl <| bu [] [(2,.i 3)] I fun a I=>wp_ret ?_;obtain rfl:=aC h;refine al <| bq Tryz.results148 I rfl ?_;exact ⟨rfl,hm.aX [] []⟩
 have h:=J.c4 gF h;have I:=I.b1 30 rfl gF;refine bf 2 [1,1,0,6] [(32,.i m_.cX)] [cR,6] (ay (a1 (hm.e 0 rfl)) ax) I fun a I=>?_;obtain ⟨mh,AC,h⟩:=J.aI h;have hc:=hm;refine bR (vs:=[.i m_.cX,.i 0,.i 10]) (cS I rfl rfl rfl rfl) rfl Tryz.call41 ⟨(I.g rfl),(c0 _ _),(c0 _ _),trivial⟩ (nB ((hc.into 0).pick trivial) AC) I rfl rfl ?_;rintro _ w ⟨rfl,af⟩;refine ⟨_,rfl,fun a I=>?_⟩;have hm:=hc.back 0 af;clear af hc;refine aN 2 [1,1] [(35,.bool (!mh))] I fun a I=>wpList_nil (dj _ _ ?_);refine bn (I.g rfl) h (fun jA h=>?_) (fun jA h=>?_)
 · refine bu [] [(2,.i 3)] I fun a I=>wp_ret ?_;obtain rfl:=aC h;refine al <| bq Tryz.results148 I rfl ?_;exact ⟨rfl,hm.aX [] []⟩
 refine wp_skip <| cM _ _ <| wp_seq_k fun K dO=>bd [] [(3,.i 0)] I fun a I=>?_;obtain ⟨Wt,h,TX⟩:=J.ei h;refine cd (fun a w=>Fr ⟨98,[]⟩ [(1,.aK cR)] a/\aw W M0 X w [ap.bm cR 133 [ao m_.Name,.bool m_.Static,.q ag ah m_.bK,.i m_.Returns.Kind,ao m_.Returns.aO,.i m_.cY,.i m_.cX,ao m_.Code,.q aJ aQ m_.bN]] [U J.dw ag ah m_.bK,U J.er aJ aQ m_.bN]/\Wt=(.go ())) (fun K fo=>?_) ?_
 · refine cB (fun (bw:Nat) a w=>∃ (pc:Int),Fr ⟨98,[]⟩ [(1,.aK cR),(3,.i pc)] a/\aw W M0 X w [ap.bm cR 133 [ao m_.Name,.bool m_.Static,.q ag ah m_.bK,.i m_.Returns.Kind,ao m_.Returns.aO,.i m_.cY,.i m_.cX,ao m_.Code,.q aJ aQ m_.bN]] [U J.dw ag ah m_.bK,U J.er aJ aQ m_.bN]/\J.wX F m_ bw pc=some Wt) F ⟨0,I.cut,hm,h⟩ ?_ ?_
   · rintro a w ⟨pc,I,hm,h⟩;exact absurd h (by simp [J.wX])
   rintro bw a w ⟨pc,I,hm,h⟩ K fa;rw [J.wX] at h;refine wp_seq_k fun K gE=>wp_seq_k fun K hk=>eH [0,2] [(40,.bool (decide (pc <(m_.bK.length:Int))))] [cR,2] (ay (a1 (hm.e 0 rfl)) ax) I fun a I=>hk _ _ <| bn (I.g rfl) h (fun ar3 h=>?_) (fun ar3 h=>?_)
   · refine wp_skip <| gE _ _ <| wp_seq_k fun K fx=>wp_block <| wp_seq_k fun K fN=>aZ <| bf 3 [0,2] [(44,.q ag ah m_.bK),(45,.i pc)] [cR,2] (ay (a1 (hm.e 0 rfl)) ax) I fun a I=>?_;obtain ⟨El,aE1,h⟩:=J.aI h;obtain ⟨an9,ayZ,_,rfl,auG⟩:=b3 _ (hm.d 0 rfl) aE1;refine bU wn (bI Tryz.underlying130 Tryz.sizeOf103 rfl (I.g rfl) (I.g rfl) an9 ayZ) I rfl rfl fun a I=>bf 1 [0,0] [(47,.agg #[.i El.Kind,ao El.aO])] [bG ag,bH ag+(pc).toNat* 2] (ay auG ax) I fun a I=>?_;obtain ⟨Yu,aCg,h⟩:=J.aI h;have hc:=hm
     refine bR (vs:=[.agg #[.i El.Kind,ao El.aO]]) wn rfl Tryz.call147 ⟨(I.g rfl),trivial⟩ (Ln ((hc.into 0).pick trivial) aCg) I rfl rfl ?_;rintro _ w ⟨rfl,af⟩;refine ⟨_,rfl,fun a I=>?_⟩;have hm:=hc.back 0 af;clear af hc;refine aN 1 [] [(49,.bool (!Yu))] I fun a I=>wpList_nil (fN _ _ ?_);refine bn (I.g rfl) h (fun Sc h=>?_) (fun Sc h=>?_)
     · refine bu [] [(2,.i 7)] I fun a I=>wp_ret ?_;obtain rfl:=aC h;obtain rfl:=aC TX;refine a' (al (al (a' (al (al ?_)))));refine bq Tryz.results148 I rfl ?_;exact ⟨rfl,hm.aX [] []⟩
     refine wp_skip <| fx _ _ <| cg [] [(3,.i (J.av (pc+ 1)))] I fun a I=>?_;exact fa _ _ ⟨J.av (pc+ 1),I.cut,hm,h⟩
   refine wp_exit <| bC (bC (cv ?_));exact fo _ _ ⟨I.cut,hm,(os h)⟩
 rintro a w ⟨I,hm,bb⟩;subst Wt;have h:=TX;clear TX;dsimp only [J.ec] at h;refine dO _ _ <| wp_seq_k fun K gv=>wp_seq_k fun K gQ=>aZ <| bf 2 [0,3] [(51,.agg #[.i m_.Returns.Kind,ao m_.Returns.aO])] [cR,3] (ay (a1 (hm.e 0 rfl)) ax) I fun a I=>?_;obtain ⟨j6,Ic,h⟩:=J.aI h;have hc:=hm;refine bR (vs:=[.agg #[.i m_.Returns.Kind,ao m_.Returns.aO]]) wn rfl Tryz.call147 ⟨(I.g rfl),trivial⟩ (Ln ((hc.into 0).pick trivial) Ic) I rfl rfl ?_;rintro _ w ⟨rfl,af⟩;refine ⟨_,rfl,fun a I=>?_⟩;have hm:=hc.back 0 af;clear af hc
 refine bf 13 [0,0,0,0,3,0,0,0,0,0,0,4,0,0,0,0] [(65,.bool ((!j6) && ((!decide (m_.Returns.Kind= 0)) || (!decide (m_.Returns.aO= [])))))] [cR,4,cR,3] (ay (a1 (hm.e 0 rfl)) ax) I fun a I=>wpList_nil (gQ _ _ ?_);refine bn (I.g rfl) h (fun Ah h=>?_) (fun Ah h=>?_)
 · refine bu [] [(2,.i 7)] I fun a I=>wp_ret ?_;obtain rfl:=aC h;refine al <| bq Tryz.results148 I rfl ?_;exact ⟨rfl,hm.aX [] []⟩
 refine wp_skip <| gv _ _ <| wp_seq_k fun K h6=>bd [] [(4,.i 0)] I fun a I=>?_;obtain ⟨VI,h,C'⟩:=J.ei h;refine cd (fun a w=>Fr ⟨98,[]⟩ [] a/\aw W M0 X w [ap.bm cR 133 [ao m_.Name,.bool m_.Static,.q ag ah m_.bK,.i m_.Returns.Kind,ao m_.Returns.aO,.i m_.cY,.i m_.cX,ao m_.Code,.q aJ aQ m_.bN]] [U J.dw ag ah m_.bK,U J.er aJ aQ m_.bN]/\VI=(.go ())) (fun K hB=>?_) ?_
 · refine cB (fun (c7:Nat) a w=>∃ (o5:Int),Fr ⟨98,[]⟩ [(1,.aK cR),(4,.i o5)] a/\aw W M0 X w [ap.bm cR 133 [ao m_.Name,.bool m_.Static,.q ag ah m_.bK,.i m_.Returns.Kind,ao m_.Returns.aO,.i m_.cY,.i m_.cX,ao m_.Code,.q aJ aQ m_.bN]] [U J.dw ag ah m_.bK,U J.er aJ aQ m_.bN]/\J.wY F m_ c7 o5=some VI) F ⟨0,I.cut,hm,h⟩ ?_ ?_
   · rintro a w ⟨o5,I,hm,h⟩;exact absurd h (by simp [J.wY])
   rintro c7 a w ⟨o5,I,hm,h⟩ K hC;rw [J.wY] at h;refine wp_seq_k fun K jM=>wp_seq_k fun K jy=>eH [0,8] [(70,.bool (decide (o5 <(m_.bN.length:Int))))] [cR,8] (ay (a1 (hm.e 0 rfl)) ax) I fun a I=>jy _ _ <| bn (I.g rfl) h (fun aqg h=>?_) (fun aqg h=>?_)
   · refine wp_skip <| jM _ _ <| wp_seq_k fun K mI=>wp_block <| wp_seq_k fun K jN=>aZ <| bf 3 [0,8] [(74,.q aJ aQ m_.bN),(75,.i o5)] [cR,8] (ay (a1 (hm.e 0 rfl)) ax) I fun a I=>?_;obtain ⟨jG,aDo,h⟩:=J.aI h;obtain ⟨amn,axf,_,rfl,asV⟩:=b3 _ (hm.d 1 rfl) aDo;refine bU wn (bI Tryz.underlying131 Tryz.sizeOf150 rfl (I.g rfl) (I.g rfl) amn axf) I rfl rfl fun a I=>bf 1 [0,0] [(77,.agg #[.i jG.From,.i jG.To,.i jG.gY,ao jG.aO])] [bG aJ,bH aJ+(o5).toNat* 4] (ay asV ax) I fun a I=>?_
     refine cz (cs:=[.i 0,.i 0,.i 0,ao []]) wn (eL Tryz.zeroValue150 rfl rfl) I hm rfl rfl fun a LK w _ I hm=>cA (vs:=[.i jG.From,.i jG.To,.i jG.gY,ao jG.aO]) 0 hm rfl wn rfl Tryz.sizeOf150 rfl rfl rfl rfl (I.g rfl) (I.g rfl) rfl fun w hm=>wpList_nil <| jN _ _ <| wp_seq_k fun K jO=>wp_seq_k fun K kn=>aZ <| bf 2 [0,3] [(79,ao jG.aO)] [LK,3] (ay (a1 (hm.e 0 rfl)) ax) I fun a I=>?_;obtain ⟨XU,aA4,h⟩:=J.aI h;have hc:=hm
     refine bR (vs:=[ao jG.aO]) wn rfl Tryz.call146 ⟨(I.g rfl),trivial⟩ (zQ ((hc.into 0).pick trivial) aA4) I rfl rfl ?_;rintro _ w ⟨rfl,af⟩;refine ⟨_,rfl,fun a I=>?_⟩;have hm:=hc.back 0 af;clear af hc;refine aN 1 [] [(81,.bool (!XU))] I fun a I=>wpList_nil (kn _ _ ?_);refine bn (I.g rfl) h (fun aqo h=>?_) (fun aqo h=>?_)
     · refine bu [] [(2,.i 1)] I fun a I=>wp_ret ?_;obtain rfl:=aC h;obtain rfl:=aC C';refine al (a' (al (al (a' (al (al ?_))))));refine bq Tryz.results148 I rfl ?_;exact ⟨rfl,hm.aX [] []⟩
     refine wp_skip <| jO _ _ <| wp_seq_k fun K nL=>aZ <| bf 2 [0,0] [(83,.i jG.From)] [LK,0] (ay (a1 (hm.e 0 rfl)) ax) I fun a I=>?_;obtain ⟨Nn,aA6,h⟩:=J.aI h;have hc:=hm;refine bR (vs:=[.i jG.From,.i 0,.i 200]) wn rfl Tryz.call41 ⟨(I.g rfl),(c0 _ _),(c0 _ _),trivial⟩ (nB ((hc.into 0).pick trivial) aA6) I rfl rfl ?_;rintro _ w ⟨rfl,af⟩;refine ⟨_,rfl,fun a I=>?_⟩;have hm:=hc.back 0 af;clear af hc;refine aN 2 [] [(86,.bool (!Nn))] I fun a I=>?_;rcases Bool.eq_false_or_eq_true (!Nn) with GQ | GQ
     · have h:=J.c5 GQ h;have I:=I.b1 86 rfl GQ;refine aN 11 [1,1,1,1,1,1,1,1,1,1] [(97,.bool true)] I fun a I=>wpList_nil (nL _ _ ?_);refine eJ (I.g rfl) rfl <| bu [] [(2,.i 3)] I fun a I=>wp_ret ?_;obtain rfl:=aC h;obtain rfl:=aC C';refine a' (al (al (a' (al (al ?_)))));refine bq Tryz.results148 I rfl ?_;exact ⟨rfl,hm.aX [] []⟩
     have h:=J.c4 GQ h;have I:=I.b1 86 rfl GQ;refine bf 2 [1,1,0,1] [(88,.i jG.To)] [LK,1] (ay (a1 (hm.e 0 rfl)) ax) I fun a I=>?_;obtain ⟨Np,aA7,h⟩:=J.aI h;have hc:=hm;refine bR (vs:=[.i jG.To,.i 0,.i 200]) (cS I rfl rfl rfl rfl) rfl Tryz.call41 ⟨(I.g rfl),(c0 _ _),(c0 _ _),trivial⟩ (nB ((hc.into 0).pick trivial) aA7) I rfl rfl ?_;rintro _ w ⟨rfl,af⟩;refine ⟨_,rfl,fun a I=>?_⟩;have hm:=hc.back 0 af;clear af hc;refine aN 3 [1,1] [(92,.bool (!Np))] I fun a I=>?_;rcases Bool.eq_false_or_eq_true (!Np) with GR | GR
     · have h:=J.c5 GR h;have I:=I.b1 92 rfl GR;refine aN 5 [1,1,1,1,1] [(97,.bool true)] I fun a I=>wpList_nil (nL _ _ ?_);refine eJ (I.g rfl) rfl <| bu [] [(2,.i 3)] I fun a I=>wp_ret ?_;obtain rfl:=aC h;obtain rfl:=aC C';refine a' (al (al (a' (al (al ?_)))));refine bq Tryz.results148 I rfl ?_;exact ⟨rfl,hm.aX [] []⟩
     have h:=J.c4 GR h;have I:=I.b1 92 rfl GR;refine bf 2 [1,1,0,2] [(94,.i jG.gY)] [LK,2] (ay (a1 (hm.e 0 rfl)) ax) I fun a I=>?_;obtain ⟨XV,aA9,h⟩:=J.aI h;have hc:=hm;refine bR (vs:=[.i jG.gY,.i 0,.i 200]) (cS I rfl rfl rfl rfl) rfl Tryz.call41 ⟨(I.g rfl),(c0 _ _),(c0 _ _),trivial⟩ (nB ((hc.into 0).pick trivial) aA9) I rfl rfl ?_;rintro _ w ⟨rfl,af⟩;refine ⟨_,rfl,fun a I=>?_⟩;have hm:=hc.back 0 af;clear af hc;refine aN 2 [1,1] [(97,.bool (!XV))] I fun a I=>wpList_nil (nL _ _ ?_);refine bn (I.g rfl) h (fun aqs h=>?_) (fun aqs h=>?_)
     · refine bu [] [(2,.i 3)] I fun a I=>wp_ret ?_;obtain rfl:=aC h;obtain rfl:=aC C';refine a' (al (al (a' (al (al ?_)))));refine bq Tryz.results148 I rfl ?_;exact ⟨rfl,hm.aX [] []⟩
     refine wp_skip <| mI _ _ <| cg [] [(4,.i (J.av (o5+ 1)))] I fun a I=>?_;exact hC _ _ ⟨J.av (o5+ 1),I.cut,(hm.k1 [1] rfl rfl),h⟩
   refine wp_exit <| bC (bC (cv ?_));exact hB _ _ ⟨I.cut,hm,(os h)⟩
 rintro a w ⟨I,hm,bb⟩;subst VI;have h:=C';clear C';dsimp only [J.ec] at h;refine h6 _ _ <| bu [] [(2,.i 0)] I fun a I=>wp_ret ?_;obtain rfl:=aC h;refine bq Tryz.results148 I rfl ?_;exact ⟨rfl,hm.aX [] []⟩
theorem ajw {W:World} {X:List Nat} {F:Nat} {aL:List J.aO} {r:Int} {ag:aT} {ah:Nat} {M0:List Nat} (hm:aw W M0 X W [] [U J.bc ag ah aL]) (h:J.Fm F aL=some r) :
 Calls Tryz.prog 135 [.q ag ah aL].toArray W (fun e aF=>e= .returned (.i r)/\aw W M0 X aF [] []):=by
 refine enter Tryz.func135 rfl Tryz.ntmps135 rfl fun a I=>?_;rw [J.Fm] at h;refine bd [] [] I fun a I=>wp_seq_k fun K bO=>bd [] [(10,.bool (decide (10 <(aL.length:Int))))] I fun a I=>bn (I.g rfl) h (fun lf h=>?_) (fun lf h=>?_)
 · refine bu [] [(2,.i 2)] I fun a I=>wp_ret ?_;obtain rfl:=aC h;refine al <| bq Tryz.results135 I rfl ?_;exact ⟨rfl,hm.aX [] []⟩
 refine wp_skip <| bO _ _ <| wp_seq_k fun K cn=>bd [] [(3,.i 0)] I fun a I=>?_;obtain ⟨V6,h,pE⟩:=J.ei h;refine cd (fun a w=>Fr ⟨85,[]⟩ [] a/\aw W M0 X w [] [U J.bc ag ah aL]/\V6=(.go ())) (fun K dm=>?_) ?_
 · refine cB (fun (bw:Nat) a w=>∃ (jh:Int),Fr ⟨85,[]⟩ [(0,.q ag ah aL),(3,.i jh)] a/\aw W M0 X w [] [U J.bc ag ah aL]/\J.wB F aL bw jh=some V6) F ⟨0,I.cut,hm,h⟩ ?_ ?_
   · rintro a w ⟨jh,I,hm,h⟩;exact absurd h (by simp [J.wB])
   rintro bw a w ⟨jh,I,hm,h⟩ K cM;rw [J.wB] at h;refine wp_seq_k fun K dj=>bd [] [(14,.bool (decide (jh <(aL.length:Int))))] I fun a I=>bn (I.g rfl) h (fun ark h=>?_) (fun ark h=>?_)
   · refine wp_skip <| dj _ _ <| wp_seq_k fun K dy=>?_;obtain ⟨afB,h,pF⟩:=J.e3 h;refine cd (fun a w=>Fr ⟨85,[]⟩ [(0,.q ag ah aL),(3,.i jh)] a/\aw W M0 X w [] [U J.bc ag ah aL]/\afB=(.go ())) (fun K dO=>?_) ?_
     · refine wp_seq_k fun K dS=>aZ <| aN 2 [] [(17,.q ag ah aL),(18,.i jh)] I fun a I=>?_;obtain ⟨cC,aEq,h⟩:=J.aI h;obtain ⟨anv,aym,_,⟨gX,iC,h0,jv,rfl,avW,avX⟩,at3⟩:=b3 _ (hm.d 0 rfl) aEq;have hm:=hm.more (y:=U J.aW gX iC cC.Fields) avW;have hm:=hm.more (y:=U J.b' h0 jv cC.aU) avX;refine bU wn (bI Tryz.underlying25 Tryz.sizeOf136 rfl (I.g rfl) (I.g rfl) anv aym) I rfl rfl fun a I=>?_
       refine bf 1 [0,0] [(20,.agg #[ao cC.Name,ao cC.b2,.q gX iC cC.Fields,.q h0 jv cC.aU])] [bG ag,bH ag+(jh).toNat* 4] (ay at3 ax) I fun a I=>cz (cs:=[ao [],ao [],.slice none 0 0,.slice none 0 0]) wn (eL Tryz.zeroValue136 rfl rfl) I hm rfl rfl fun a g3 w _ I hm=>cA (vs:=[ao cC.Name,ao cC.b2,.q gX iC cC.Fields,.q h0 jv cC.aU]) 0 hm rfl wn rfl Tryz.sizeOf136 rfl rfl rfl rfl (I.g rfl) (I.g rfl) rfl fun w hm=>wpList_nil <| dS _ _ <| wp_seq_k fun K fo=>?_
       refine wp_seq_k fun K fa=>aZ <| bf 2 [0,0] [(22,ao cC.Name)] [g3,0] (ay (a1 (hm.e 0 rfl)) ax) I fun a I=>?_;obtain ⟨NA,aBR,h⟩:=J.aI h;have hc:=hm;refine bR (vs:=[ao cC.Name]) wn rfl Tryz.call146 ⟨(I.g rfl),trivial⟩ (zQ ((hc.into 0).pick trivial) aBR) I rfl rfl ?_;rintro _ w ⟨rfl,af⟩;refine ⟨_,rfl,fun a I=>?_⟩;have hm:=hc.back 0 af;clear af hc;refine aN 2 [] [(25,.bool (!NA))] I fun a I=>?_;rcases Bool.eq_false_or_eq_true (!NA) with Hj | Hj
       · have h:=J.c5 Hj h;have I:=I.b1 25 rfl Hj;refine aN 10 [1,1,1,1,1,1,1,1,1,1] [(35,.bool true)] I fun a I=>wpList_nil (fa _ _ ?_);refine eJ (I.g rfl) rfl <| bu [] [(2,.i 1)] I fun a I=>wp_ret ?_;obtain rfl:=aC h;obtain rfl:=aC pF;obtain rfl:=aC pE;refine al (a' (al (al (al (a' (al (al ?_)))))));refine bq Tryz.results135 I rfl ?_;exact ⟨rfl,hm.aX [] []⟩
       have h:=J.c4 Hj h;have I:=I.b1 25 rfl Hj;refine bf 4 [1,1,0,1,1,1] [(29,.bool (!decide (cC.b2= [])))] [g3,1] (ay (a1 (hm.e 0 rfl)) ax) I fun a I=>?_;rcases Bool.eq_false_or_eq_true (!decide (cC.b2= [])) with Hk | Hk
       · have h:=J.c5 Hk h;have I:=I.b1 29 rfl Hk;refine bf 2 [1,1,0,1] [(31,ao cC.b2)] [g3,1] (ay (a1 (hm.e 0 rfl)) ax) I fun a I=>?_;obtain ⟨Yh,aBS,h⟩:=J.aI h;have hc:=hm;refine bR (vs:=[ao cC.b2]) (cS I rfl rfl rfl rfl) rfl Tryz.call146 ⟨(I.g rfl),trivial⟩ (zQ ((hc.into 0).pick trivial) aBS) I rfl rfl ?_;rintro _ w ⟨rfl,af⟩;refine ⟨_,rfl,fun a I=>?_⟩;have hm:=hc.back 0 af;clear af hc;refine aN 3 [1,1,1,1] [(35,.bool (!Yh))] I fun a I=>wpList_nil (fa _ _ ?_);refine bn (I.g rfl) h (fun arp h=>?_) (fun arp h=>?_)
         · refine bu [] [(2,.i 1)] I fun a I=>wp_ret ?_;obtain rfl:=aC h;obtain rfl:=aC pF;obtain rfl:=aC pE;refine al (a' (al (al (al (a' (al (al ?_)))))));refine bq Tryz.results135 I rfl ?_;exact ⟨rfl,hm.aX [] []⟩
         refine wp_skip <| fo _ _ <| wp_seq_k fun K fx=>wp_seq_k fun K fN=>eH [0,2,0,0,0,3,0,0,0] [(45,.bool ((decide (6 <(cC.Fields.length:Int))) || (decide (8 <(cC.aU.length:Int)))))] [g3,3,g3,2] (ay (a1 (hm.e 0 rfl)) ax) I fun a I=>fN _ _ <| bn (I.g rfl) h (fun arq h=>?_) (fun arq h=>?_)
         · refine bu [] [(2,.i 2)] I fun a I=>wp_ret ?_;obtain rfl:=aC h;obtain rfl:=aC pF;obtain rfl:=aC pE;refine al (a' (al (al (al (a' (al (al ?_)))))));refine bq Tryz.results135 I rfl ?_;exact ⟨rfl,hm.aX [] []⟩
         refine wp_skip <| fx _ _ <| wp_seq_k fun K gv=>bd [] [(5,.i 0)] I fun a I=>?_;obtain ⟨Wx,h,Mb⟩:=J.e3 h;refine cd (fun a w=>Fr ⟨85,[]⟩ [(0,.q ag ah aL),(3,.i jh),(4,.aK g3)] a/\aw W M0 X w [ap.bm g3 136 [ao cC.Name,ao cC.b2,.q gX iC cC.Fields,.q h0 jv cC.aU]] [U J.b' h0 jv cC.aU,U J.aW gX iC cC.Fields,U J.bc ag ah aL]/\Wx=(.go ())) (fun K hM=>?_) ?_
         · refine cB (fun (c7:Nat) a w=>∃ (l9:Int),Fr ⟨85,[]⟩ [(0,.q ag ah aL),(3,.i jh),(4,.aK g3),(5,.i l9)] a/\aw W M0 X w [ap.bm g3 136 [ao cC.Name,ao cC.b2,.q gX iC cC.Fields,.q h0 jv cC.aU]] [U J.b' h0 jv cC.aU,U J.aW gX iC cC.Fields,U J.bc ag ah aL]/\J.wC F cC c7 l9=some Wx) F ⟨0,I.cut,hm,h⟩ ?_ ?_
           · rintro a w ⟨l9,I,hm,h⟩;exact absurd h (by simp [J.wC])
           rintro c7 a w ⟨l9,I,hm,h⟩ K h6;rw [J.wC] at h;refine wp_seq_k fun K hA=>wp_seq_k fun K hB=>eH [0,2] [(50,.bool (decide (l9 <(cC.Fields.length:Int))))] [g3,2] (ay (a1 (hm.e 0 rfl)) ax) I fun a I=>hB _ _ <| bn (I.g rfl) h (fun art h=>?_) (fun art h=>?_)
           · refine wp_skip <| hA _ _ <| wp_seq_k fun K hC=>wp_block <| wp_seq_k fun K jM=>wp_seq_k fun K jy=>aZ <| bf 3 [0,2] [(54,.q gX iC cC.Fields),(55,.i l9)] [g3,2] (ay (a1 (hm.e 0 rfl)) ax) I fun a I=>?_;obtain ⟨OS,aEu,h⟩:=J.aI h;obtain ⟨anz,ayp,_,rfl,at6⟩:=b3 _ (hm.d 1 rfl) aEu;refine bU wn (bI Tryz.underlying106 Tryz.sizeOf105 rfl (I.g rfl) (I.g rfl) anz ayp) I rfl rfl fun a I=>bf 2 [0,0] [(58,ao OS.Name)] [bG gX,bH gX+(l9).toNat* 3 + 0] (ay at6 ax) I fun a I=>?_;obtain ⟨Yj,aBW,h⟩:=J.aI h;have hc:=hm
             refine bR (vs:=[ao OS.Name]) wn rfl Tryz.call146 ⟨(I.g rfl),trivial⟩ (zQ ((hc.into 0).pick trivial) aBW) I rfl rfl ?_;rintro _ w ⟨rfl,af⟩;refine ⟨_,rfl,fun a I=>?_⟩;have hm:=hc.back 0 af;clear af hc;refine aN 1 [] [(60,.bool (!Yj))] I fun a I=>wpList_nil (jy _ _ ?_);refine bn (I.g rfl) h (fun arv h=>?_) (fun arv h=>?_)
             · refine bu [] [(2,.i 1)] I fun a I=>wp_ret ?_;obtain rfl:=aC h;obtain rfl:=aC Mb;obtain rfl:=aC pF;obtain rfl:=aC pE;refine al (a' (al (al (a' (al (al (a' (al (al (al (a' (al (al ?_)))))))))))));refine bq Tryz.results135 I rfl ?_;exact ⟨rfl,hm.aX [] []⟩
             refine wp_skip <| jM _ _ <| wp_seq_k fun K jN=>aZ <| bf 3 [0,2] [(62,.q gX iC cC.Fields),(63,.i l9)] [g3,2] (ay (a1 (hm.e 0 rfl)) ax) I fun a I=>?_;obtain ⟨Bq,aEv,h⟩:=J.aI h;obtain ⟨anA,ayq,_,rfl,at7⟩:=b3 _ (hm.d 1 rfl) aEv;refine bU wn (bI Tryz.underlying106 Tryz.sizeOf105 rfl (I.g rfl) (I.g rfl) anA ayq) I rfl rfl fun a I=>bf 2 [0,1] [(66,.agg #[.i Bq.Kind.Kind,ao Bq.Kind.aO])] [bG gX,bH gX+(l9).toNat* 3 + 1] (ay at7 ax) I fun a I=>?_;obtain ⟨Yk,aBX,h⟩:=J.aI h;have hc:=hm
             refine bR (vs:=[.agg #[.i Bq.Kind.Kind,ao Bq.Kind.aO]]) wn rfl Tryz.call147 ⟨(I.g rfl),trivial⟩ (Ln ((hc.into 0).pick trivial) aBX) I rfl rfl ?_;rintro _ w ⟨rfl,af⟩;refine ⟨_,rfl,fun a I=>?_⟩;have hm:=hc.back 0 af;clear af hc;refine aN 1 [] [(68,.bool (!Yk))] I fun a I=>wpList_nil (jN _ _ ?_);refine bn (I.g rfl) h (fun arw h=>?_) (fun arw h=>?_)
             · refine bu [] [(2,.i 7)] I fun a I=>wp_ret ?_;obtain rfl:=aC h;obtain rfl:=aC Mb;obtain rfl:=aC pF;obtain rfl:=aC pE;refine a' (al (al (a' (al (al (a' (al (al (al (a' (al (al ?_))))))))))));refine bq Tryz.results135 I rfl ?_;exact ⟨rfl,hm.aX [] []⟩
             refine wp_skip <| hC _ _ <| cg [] [(5,.i (J.av (l9+ 1)))] I fun a I=>?_;exact h6 _ _ ⟨J.av (l9+ 1),I.cut,hm,h⟩
           refine wp_exit <| bC (bC (cv ?_));exact hM _ _ ⟨I.cut,hm,(os h)⟩
         rintro a w ⟨I,hm,bb⟩;subst Wx;have h:=Mb;clear Mb;dsimp only [J.eV] at h;refine gv _ _ <| bd [] [(6,.i 0)] I fun a I=>?_;obtain ⟨Wz,h,T4⟩:=J.e3 h;refine cd (fun a w=>Fr ⟨85,[]⟩ [(0,.q ag ah aL),(3,.i jh)] a/\aw W M0 X w [ap.bm g3 136 [ao cC.Name,ao cC.b2,.q gX iC cC.Fields,.q h0 jv cC.aU]] [U J.b' h0 jv cC.aU,U J.aW gX iC cC.Fields,U J.bc ag ah aL]/\Wz=(.go ())) (fun K ko=>?_) ?_
         · refine cB (fun (eB:Nat) a w=>∃ (o':Int),Fr ⟨85,[]⟩ [(0,.q ag ah aL),(3,.i jh),(4,.aK g3),(6,.i o')] a/\aw W M0 X w [ap.bm g3 136 [ao cC.Name,ao cC.b2,.q gX iC cC.Fields,.q h0 jv cC.aU]] [U J.b' h0 jv cC.aU,U J.aW gX iC cC.Fields,U J.bc ag ah aL]/\J.wD F cC eB o'=some Wz) F ⟨0,I.cut,hm,h⟩ ?_ ?_
           · rintro a w ⟨o',I,hm,h⟩;exact absurd h (by simp [J.wD])
           rintro eB a w ⟨o',I,hm,h⟩ K nL;rw [J.wD] at h;refine wp_seq_k fun K oL=>wp_seq_k fun K lW=>eH [0,3] [(73,.bool (decide (o' <(cC.aU.length:Int))))] [g3,3] (ay (a1 (hm.e 0 rfl)) ax) I fun a I=>lW _ _ <| bn (I.g rfl) h (fun ary h=>?_) (fun ary h=>?_)
           · refine wp_skip <| oL _ _ <| wp_seq_k fun K oM=>wp_block <| wp_seq_k fun K lX=>aZ <| bf 3 [0,3] [(77,.q h0 jv cC.aU),(78,.i o')] [g3,3] (ay (a1 (hm.e 0 rfl)) ax) I fun a I=>?_;obtain ⟨jo,aEy,h⟩:=J.aI h;obtain ⟨anD,ays,_,⟨P',QP,Qa,QQ,rfl,av2,av3⟩,at9⟩:=b3 _ (hm.d 0 rfl) aEy;have hm:=hm.more (y:=U J.dw P' QP jo.bK) av2;have hm:=hm.more (y:=U J.er Qa QQ jo.bN) av3
             refine bU wn (bI Tryz.underlying134 Tryz.sizeOf133 rfl (I.g rfl) (I.g rfl) anD ays) I rfl rfl fun a I=>bf 1 [0,0] [(80,.agg #[ao jo.Name,.bool jo.Static,.q P' QP jo.bK,.i jo.Returns.Kind,ao jo.Returns.aO,.i jo.cY,.i jo.cX,ao jo.Code,.q Qa QQ jo.bN])] [bG h0,bH h0+(o').toNat* 9] (ay at9 ax) I fun a I=>?_;obtain ⟨DX,aBY,h⟩:=J.aI h;have hc:=hm
             refine bR (vs:=[.agg #[ao jo.Name,.bool jo.Static,.q P' QP jo.bK,.i jo.Returns.Kind,ao jo.Returns.aO,.i jo.cY,.i jo.cX,ao jo.Code,.q Qa QQ jo.bN]]) wn rfl Tryz.call148 ⟨(I.g rfl),trivial⟩ (ab' ((hc.into 0).pick ⟨⟨1,rfl⟩,⟨0,rfl⟩,trivial⟩) aBY) I rfl rfl ?_;rintro _ w ⟨rfl,af⟩;refine ⟨_,rfl,fun a I=>?_⟩;have hm:=hc.back 0 af;clear af hc;refine aN 1 [] [(7,.i DX)] I fun a I=>wpList_nil (lX _ _ ?_);refine bd [] [(83,.bool (!decide (DX= 0)))] I fun a I=>?_
             refine bn (I.g rfl) h (fun arz h=>?_) (fun arz h=>?_)
             · refine bu [] [(2,.i DX)] I fun a I=>wp_ret ?_;obtain rfl:=aC h;obtain rfl:=aC T4;obtain rfl:=aC pF;obtain rfl:=aC pE;refine a' (al (al (a' (al (a' (al (al (al (a' (al (al ?_)))))))))));refine bq Tryz.results135 I rfl ?_;exact ⟨rfl,hm.aX [] []⟩
             refine wp_skip <| oM _ _ <| cg [] [(6,.i (J.av (o'+ 1)))] I fun a I=>?_;exact nL _ _ ⟨J.av (o'+ 1),I.cut,hm.eg [2,3,4],h⟩
           refine wp_exit <| bC (bC (cv ?_));exact ko _ _ ⟨I.cut,hm,(os h)⟩
         rintro a w ⟨I,hm,bb⟩;subst Wz;have h:=T4;clear T4;dsimp only [J.eV] at h;exact dO _ _ ⟨I.cut,hm.aX [] [2],(os h)⟩
       have h:=J.c4 Hk h;have I:=I.b1 29 rfl Hk;refine aN 6 [1,1,1,1,1,1,1] [(35,.bool false)] I fun a I=>wpList_nil (fa _ _ ?_);refine g2 (I.g rfl) rfl <| wp_skip <| fo _ _ <| wp_seq_k fun K zZ=>wp_seq_k fun K mK=>eH [0,2,0,0,0,3,0,0,0] [(45,.bool ((decide (6 <(cC.Fields.length:Int))) || (decide (8 <(cC.aU.length:Int)))))] [g3,3,g3,2] (ay (a1 (hm.e 0 rfl)) ax) I fun a I=>mK _ _ <| bn (I.g rfl) h (fun arA h=>?_) (fun arA h=>?_)
       · refine bu [] [(2,.i 2)] I fun a I=>wp_ret ?_;obtain rfl:=aC h;obtain rfl:=aC pF;obtain rfl:=aC pE;refine al (a' (al (al (al (a' (al (al ?_)))))));refine bq Tryz.results135 I rfl ?_;exact ⟨rfl,hm.aX [] []⟩
       refine wp_skip <| zZ _ _ <| wp_seq_k fun K rb=>bd [] [(5,.i 0)] I fun a I=>?_;obtain ⟨WB,h,Mc⟩:=J.e3 h;refine cd (fun a w=>Fr ⟨85,[]⟩ [(0,.q ag ah aL),(3,.i jh),(4,.aK g3)] a/\aw W M0 X w [ap.bm g3 136 [ao cC.Name,ao cC.b2,.q gX iC cC.Fields,.q h0 jv cC.aU]] [U J.b' h0 jv cC.aU,U J.aW gX iC cC.Fields,U J.bc ag ah aL]/\WB=(.go ())) (fun K oO=>?_) ?_
       · refine cB (fun (fB:Nat) a w=>∃ (l_:Int),Fr ⟨85,[]⟩ [(0,.q ag ah aL),(3,.i jh),(4,.aK g3),(5,.i l_)] a/\aw W M0 X w [ap.bm g3 136 [ao cC.Name,ao cC.b2,.q gX iC cC.Fields,.q h0 jv cC.aU]] [U J.b' h0 jv cC.aU,U J.aW gX iC cC.Fields,U J.bc ag ah aL]/\J.wE F cC fB l_=some WB) F ⟨0,I.cut,hm,h⟩ ?_ ?_
         · rintro a w ⟨l_,I,hm,h⟩;exact absurd h (by simp [J.wE])
         rintro fB a w ⟨l_,I,hm,h⟩ K mL;rw [J.wE] at h;refine wp_seq_k fun K sC=>wp_seq_k fun K ug=>eH [0,2] [(50,.bool (decide (l_ <(cC.Fields.length:Int))))] [g3,2] (ay (a1 (hm.e 0 rfl)) ax) I fun a I=>ug _ _ <| bn (I.g rfl) h (fun arB h=>?_) (fun arB h=>?_)
         · refine wp_skip <| sC _ _ <| wp_seq_k fun K uh=>wp_block <| wp_seq_k fun K sD=>wp_seq_k fun K ui=>aZ <| bf 3 [0,2] [(54,.q gX iC cC.Fields),(55,.i l_)] [g3,2] (ay (a1 (hm.e 0 rfl)) ax) I fun a I=>?_;obtain ⟨OT,aEz,h⟩:=J.aI h;obtain ⟨anF,ayu,_,rfl,at'⟩:=b3 _ (hm.d 1 rfl) aEz;refine bU wn (bI Tryz.underlying106 Tryz.sizeOf105 rfl (I.g rfl) (I.g rfl) anF ayu) I rfl rfl fun a I=>bf 2 [0,0] [(58,ao OT.Name)] [bG gX,bH gX+(l_).toNat* 3 + 0] (ay at' ax) I fun a I=>?_;obtain ⟨Ym,aB0,h⟩:=J.aI h;have hc:=hm
           refine bR (vs:=[ao OT.Name]) wn rfl Tryz.call146 ⟨(I.g rfl),trivial⟩ (zQ ((hc.into 0).pick trivial) aB0) I rfl rfl ?_;rintro _ w ⟨rfl,af⟩;refine ⟨_,rfl,fun a I=>?_⟩;have hm:=hc.back 0 af;clear af hc;refine aN 1 [] [(60,.bool (!Ym))] I fun a I=>wpList_nil (ui _ _ ?_);refine bn (I.g rfl) h (fun arC h=>?_) (fun arC h=>?_)
           · refine bu [] [(2,.i 1)] I fun a I=>wp_ret ?_;obtain rfl:=aC h;obtain rfl:=aC Mc;obtain rfl:=aC pF;obtain rfl:=aC pE;refine al (a' (al (al (a' (al (al (a' (al (al (al (a' (al (al ?_)))))))))))));refine bq Tryz.results135 I rfl ?_;exact ⟨rfl,hm.aX [] []⟩
           refine wp_skip <| sD _ _ <| wp_seq_k fun K uj=>aZ <| bf 3 [0,2] [(62,.q gX iC cC.Fields),(63,.i l_)] [g3,2] (ay (a1 (hm.e 0 rfl)) ax) I fun a I=>?_;obtain ⟨Br,aEA,h⟩:=J.aI h;obtain ⟨anG,ayv,_,rfl,aua⟩:=b3 _ (hm.d 1 rfl) aEA;refine bU wn (bI Tryz.underlying106 Tryz.sizeOf105 rfl (I.g rfl) (I.g rfl) anG ayv) I rfl rfl fun a I=>bf 2 [0,1] [(66,.agg #[.i Br.Kind.Kind,ao Br.Kind.aO])] [bG gX,bH gX+(l_).toNat* 3 + 1] (ay aua ax) I fun a I=>?_;obtain ⟨Yn,aB1,h⟩:=J.aI h;have hc:=hm
           refine bR (vs:=[.agg #[.i Br.Kind.Kind,ao Br.Kind.aO]]) wn rfl Tryz.call147 ⟨(I.g rfl),trivial⟩ (Ln ((hc.into 0).pick trivial) aB1) I rfl rfl ?_;rintro _ w ⟨rfl,af⟩;refine ⟨_,rfl,fun a I=>?_⟩;have hm:=hc.back 0 af;clear af hc;refine aN 1 [] [(68,.bool (!Yn))] I fun a I=>wpList_nil (uj _ _ ?_);refine bn (I.g rfl) h (fun arD h=>?_) (fun arD h=>?_)
           · refine bu [] [(2,.i 7)] I fun a I=>wp_ret ?_;obtain rfl:=aC h;obtain rfl:=aC Mc;obtain rfl:=aC pF;obtain rfl:=aC pE;refine a' (al (al (a' (al (al (a' (al (al (al (a' (al (al ?_))))))))))));refine bq Tryz.results135 I rfl ?_;exact ⟨rfl,hm.aX [] []⟩
           refine wp_skip <| uh _ _ <| cg [] [(5,.i (J.av (l_+ 1)))] I fun a I=>?_;exact mL _ _ ⟨J.av (l_+ 1),I.cut,hm,h⟩
         refine wp_exit <| bC (bC (cv ?_));exact oO _ _ ⟨I.cut,hm,(os h)⟩
       rintro a w ⟨I,hm,bb⟩;subst WB;have h:=Mc;clear Mc;dsimp only [J.eV] at h;refine rb _ _ <| bd [] [(6,.i 0)] I fun a I=>?_;obtain ⟨WD,h,T7⟩:=J.e3 h;refine cd (fun a w=>Fr ⟨85,[]⟩ [(0,.q ag ah aL),(3,.i jh)] a/\aw W M0 X w [ap.bm g3 136 [ao cC.Name,ao cC.b2,.q gX iC cC.Fields,.q h0 jv cC.aU]] [U J.b' h0 jv cC.aU,U J.aW gX iC cC.Fields,U J.bc ag ah aL]/\WD=(.go ())) (fun K xS=>?_) ?_
       · refine cB (fun (h8:Nat) a w=>∃ (pa:Int),Fr ⟨85,[]⟩ [(0,.q ag ah aL),(3,.i jh),(4,.aK g3),(6,.i pa)] a/\aw W M0 X w [ap.bm g3 136 [ao cC.Name,ao cC.b2,.q gX iC cC.Fields,.q h0 jv cC.aU]] [U J.b' h0 jv cC.aU,U J.aW gX iC cC.Fields,U J.bc ag ah aL]/\J.wF F cC h8 pa=some WD) F ⟨0,I.cut,hm,h⟩ ?_ ?_
         · rintro a w ⟨pa,I,hm,h⟩;exact absurd h (by simp [J.wF])
         rintro h8 a w ⟨pa,I,hm,h⟩ K z1;rw [J.wF] at h;refine wp_seq_k fun K uk=>wp_seq_k fun K apg=>eH [0,3] [(73,.bool (decide (pa <(cC.aU.length:Int))))] [g3,3] (ay (a1 (hm.e 0 rfl)) ax) I fun a I=>apg _ _ <| bn (I.g rfl) h (fun arH h=>?_) (fun arH h=>?_)
         · refine wp_skip <| uk _ _ <| wp_seq_k fun K z2=>wp_block <| wp_seq_k fun K xT=>aZ <| bf 3 [0,3] [(77,.q h0 jv cC.aU),(78,.i pa)] [g3,3] (ay (a1 (hm.e 0 rfl)) ax) I fun a I=>?_;obtain ⟨jp,aEB,h⟩:=J.aI h;obtain ⟨anH,ayx,_,⟨Qb,QR,Qc,QS,rfl,av6,av7⟩,auc⟩:=b3 _ (hm.d 0 rfl) aEB;have hm:=hm.more (y:=U J.dw Qb QR jp.bK) av6;have hm:=hm.more (y:=U J.er Qc QS jp.bN) av7
           refine bU wn (bI Tryz.underlying134 Tryz.sizeOf133 rfl (I.g rfl) (I.g rfl) anH ayx) I rfl rfl fun a I=>bf 1 [0,0] [(80,.agg #[ao jp.Name,.bool jp.Static,.q Qb QR jp.bK,.i jp.Returns.Kind,ao jp.Returns.aO,.i jp.cY,.i jp.cX,ao jp.Code,.q Qc QS jp.bN])] [bG h0,bH h0+(pa).toNat* 9] (ay auc ax) I fun a I=>?_;obtain ⟨DY,aB3,h⟩:=J.aI h;have hc:=hm
           refine bR (vs:=[.agg #[ao jp.Name,.bool jp.Static,.q Qb QR jp.bK,.i jp.Returns.Kind,ao jp.Returns.aO,.i jp.cY,.i jp.cX,ao jp.Code,.q Qc QS jp.bN]]) wn rfl Tryz.call148 ⟨(I.g rfl),trivial⟩ (ab' ((hc.into 0).pick ⟨⟨1,rfl⟩,⟨0,rfl⟩,trivial⟩) aB3) I rfl rfl ?_;rintro _ w ⟨rfl,af⟩;refine ⟨_,rfl,fun a I=>?_⟩;have hm:=hc.back 0 af;clear af hc;refine aN 1 [] [(7,.i DY)] I fun a I=>wpList_nil (xT _ _ ?_);refine bd [] [(83,.bool (!decide (DY= 0)))] I fun a I=>?_
           refine bn (I.g rfl) h (fun arI h=>?_) (fun arI h=>?_)
           · refine bu [] [(2,.i DY)] I fun a I=>wp_ret ?_;obtain rfl:=aC h;obtain rfl:=aC T7;obtain rfl:=aC pF;obtain rfl:=aC pE;refine a' (al (al (a' (al (a' (al (al (al (a' (al (al ?_)))))))))));refine bq Tryz.results135 I rfl ?_;exact ⟨rfl,hm.aX [] []⟩
           refine wp_skip <| z2 _ _ <| cg [] [(6,.i (J.av (pa+ 1)))] I fun a I=>?_;exact z1 _ _ ⟨J.av (pa+ 1),I.cut,hm.eg [2,3,4],h⟩
         refine wp_exit <| bC (bC (cv ?_));exact xS _ _ ⟨I.cut,hm,(os h)⟩
       rintro a w ⟨I,hm,bb⟩;subst WD;have h:=T7;clear T7;dsimp only [J.eV] at h;exact dO _ _ ⟨I.cut,hm.aX [] [2],(os h)⟩
     rintro a w ⟨I,hm,bb⟩;subst afB;have h:=pF;clear pF;dsimp only [J.eV] at h;refine dy _ _ <| cg [] [(3,.i (J.av (jh+ 1)))] I fun a I=>?_;exact cM _ _ ⟨J.av (jh+ 1),I.cut,hm,h⟩
   refine wp_exit <| bC (bC (cv ?_));exact dm _ _ ⟨I.cut,hm,(os h)⟩
 rintro a w ⟨I,hm,bb⟩;subst V6;have h:=pE;clear pE;dsimp only [J.ec] at h;refine cn _ _ <| bu [] [(2,.i 0)] I fun a I=>wp_ret ?_;obtain rfl:=aC h;refine bq Tryz.results135 I rfl ?_;exact ⟨rfl,hm.aX [] []⟩
end Go.Proofs.YtpkhpagplommoaaGreat
namespace J
def oq (a_:List Kind) (b_:List Kind):Nat->Int->Option (Way (Bool) (Unit))
 | 0,_=>none
 | bw+ 1,ck=>
   cond (decide (ck <(a_.length:Int))) ((idx a_ ck).bind fun fi=>
   (idx b_ ck).bind fun fs=>
   cond (!decide (fi=fs)) (some (.out false)) (oq a_ b_ bw (av (ck+ 1)))) (some (.go ()))
def tD (F:Nat) (a_:List Kind) (b_:List Kind):Option (Bool):=
 cond (!decide ((a_.length:Int)=(b_.length:Int))) (some false) (dv (α:=Unit) (oq a_ b_ F 0) fun (_:Unit)=>
 some true)
def w5 (a_:List Field) (b_:List Field):Nat->Int->Option (Way (Bool) (Unit))
 | 0,_=>none
 | bw+ 1,ck=>
   cond (decide (ck <(a_.length:Int))) ((idx a_ ck).bind fun fi=>
   (idx b_ ck).bind fun fs=>
   cond (!decide (fi=fs)) (some (.out false)) (w5 a_ b_ bw (av (ck+ 1)))) (some (.go ()))
def B' (F:Nat) (a_:List Field) (b_:List Field):Option (Bool):=
 cond (!decide ((a_.length:Int)=(b_.length:Int))) (some false) (dv (α:=Unit) (w5 a_ b_ F 0) fun (_:Unit)=>
 some true)
def w4 (dE:Method) (dH:Method):Nat->Int->Option (Way (Bool) (Unit))
 | 0,_=>none
 | eB+ 1,ly=>
   cond (decide (ly <(dE.bN.length:Int))) ((idx dE.bN ly).bind fun Bj=>
   (idx dH.bN ly).bind fun Bk=>
   cond (!decide (Bj=Bk)) (some (.out false)) (w4 dE dH eB (av (ly+ 1)))) (some (.go ()))
def w3 (F:Nat) (eu:aO) (eD:aO):Nat->Int->Option (Way (Bool) (Unit))
 | 0,_=>none
 | c7+ 1,jY=>
   cond (decide (jY <(eu.aU.length:Int))) (eh (α:=Unit) ((idx eu.aU jY).bind fun dE=>
   (idx eD.aU jY).bind fun dH=>
   cond ((!decide (dE.Name=dH.Name)) || (!(dE.Static == dH.Static))) (some (.out false)) ((tD F dE.bK dH.bK).bind fun Nj=>
   cond (!Nj) (some (.out false)) (cond (((((!decide ((⟨dE.Returns.Kind,dE.Returns.aO⟩:Kind)=(⟨dH.Returns.Kind,dH.Returns.aO⟩:Kind))) || (!decide (dE.cY=dH.cY))) || (!decide (dE.cX=dH.cX))) || (!decide (dE.Code=dH.Code))) || (!decide ((dE.bN.length:Int)=(dH.bN.length:Int)))) (some (.out false)) (eh (α:=Unit) (w4 dE dH F 0) fun (_:Unit)=>
   some (.go ()))))) fun (_:Unit)=>
   w3 F eu eD c7 (av (jY+ 1))) (some (.go ()))
def w2 (F:Nat) (a_:List aO) (b_:List aO):Nat->Int->Option (Way (Bool) (Unit))
 | 0,_=>none
 | bw+ 1,iM=>
   cond (decide (iM <(a_.length:Int))) (eh (α:=Unit) ((idx a_ iM).bind fun eu=>
   (idx b_ iM).bind fun eD=>
   cond ((!decide (eu.Name=eD.Name)) || (!decide (eu.b2=eD.b2))) (some (.out false)) ((B' F eu.Fields eD.Fields).bind fun XO=>
   cond ((!XO) || (!decide ((eu.aU.length:Int)=(eD.aU.length:Int)))) (some (.out false)) (eh (α:=Unit) (w3 F eu eD F 0) fun (_:Unit)=>
   some (.go ())))) fun (_:Unit)=>
   w2 F a_ b_ bw (av (iM+ 1))) (some (.go ()))
def B_ (F:Nat) (a_:List aO) (b_:List aO):Option (Bool):=
 cond (!decide ((a_.length:Int)=(b_.length:Int))) (some false) (dv (α:=Unit) (w2 F a_ b_ F 0) fun (_:Unit)=>
 some true)
def w6 (a_:bt) (b_:bt):Nat->Int->Option (Way (Bool) (Unit))
 | 0,_=>none
 | bw+ 1,mc=>
   cond (decide (mc <(a_.aE.length:Int))) ((idx a_.aE mc).bind fun Oa=>
   (idx b_.aE mc).bind fun vR=>
   cond (!decide (Oa=vR)) (some (.out false)) (w6 a_ b_ bw (av (mc+ 1)))) (some (.go ()))
def w7 (F:Nat) (a_:bt) (b_:bt):Nat->Int->Option (Way (Bool) (Unit))
 | 0,_=>none
 | c7+ 1,l6=>
   cond (decide (l6 <(a_.Fields.length:Int))) ((idx a_.Fields l6).bind fun Ea=>
   (idx b_.Fields l6).bind fun Ec=>
   (B' F Ea Ec).bind fun XX=>
   cond (!XX) (some (.out false)) (w7 F a_ b_ c7 (av (l6+ 1)))) (some (.go ()))
def w9 (a_:bt) (b_:bt) (gS:Int):Nat->Int->Option (Way (Bool) (Unit))
 | 0,_=>none
 | fB+ 1,lA=>
   (idx a_.Names gS).bind fun Ot=>
   cond (decide (lA <(Ot.length:Int))) ((idx a_.Names gS).bind fun Ou=>
   (idx Ou lA).bind fun Ox=>
   (idx b_.Names gS).bind fun Oz=>
   (idx Oz lA).bind fun Y9=>
   cond (!decide (Ox=Y9)) (some (.out false)) (w9 a_ b_ gS fB (av (lA+ 1)))) (some (.go ()))
def w8 (F:Nat) (a_:bt) (b_:bt):Nat->Int->Option (Way (Bool) (Unit))
 | 0,_=>none
 | eB+ 1,gS=>
   cond (decide (gS <(a_.Names.length:Int))) (eh (α:=Unit) ((idx a_.Names gS).bind fun Bo=>
   (idx b_.Names gS).bind fun Ed=>
   cond (!decide ((Bo.length:Int)=(Ed.length:Int))) (some (.out false)) (eh (α:=Unit) (w9 a_ b_ gS F 0) fun (_:Unit)=>
   some (.go ()))) fun (_:Unit)=>
   w8 F a_ b_ eB (av (gS+ 1))) (some (.go ()))
def w' (a_:bt) (b_:bt) (gJ:Int):Nat->Int->Option (Way (Bool) (Unit))
 | 0,_=>none
 | jS+ 1,lB=>
   (idx a_.aD gJ).bind fun O1=>
   cond (decide (lB <(O1.length:Int))) ((idx a_.aD gJ).bind fun O2=>
   (idx O2 lB).bind fun Jt=>
   (idx b_.aD gJ).bind fun O3=>
   (idx O3 lB).bind fun Ju=>
   cond (!decide (Jt=Ju)) (some (.out false)) (w' a_ b_ gJ jS (av (lB+ 1)))) (some (.go ()))
def w_ (F:Nat) (a_:bt) (b_:bt):Nat->Int->Option (Way (Bool) (Unit))
 | 0,_=>none
 | h8+ 1,gJ=>
   cond (decide (gJ <(a_.aD.length:Int))) (eh (α:=Unit) ((idx a_.aD gJ).bind fun Bt=>
   (idx b_.aD gJ).bind fun Ek=>
   cond (!decide ((Bt.length:Int)=(Ek.length:Int))) (some (.out false)) (eh (α:=Unit) (w' a_ b_ gJ F 0) fun (_:Unit)=>
   some (.go ()))) fun (_:Unit)=>
   w_ F a_ b_ h8 (av (gJ+ 1))) (some (.go ()))
def Cb (F:Nat) (a_:bt) (b_:bt):Option (Bool):=
 (B_ F a_.aG b_.aG).bind fun yR=>
 cond (((((!yR) || (!decide ((b_.aE.length:Int)=(a_.aE.length:Int)))) || (!decide ((a_.Fields.length:Int)=(b_.Fields.length:Int)))) || (!decide ((a_.Names.length:Int)=(b_.Names.length:Int)))) || (!decide ((a_.aD.length:Int)=(b_.aD.length:Int)))) (some false) (dv (α:=Unit) (w6 a_ b_ F 0) fun (_:Unit)=>
 dv (α:=Unit) (w7 F a_ b_ F 0) fun (_:Unit)=>
 dv (α:=Unit) (w8 F a_ b_ F 0) fun (_:Unit)=>
 dv (α:=Unit) (w_ F a_ b_ F 0) fun (_:Unit)=>
 some true)
def wZ (aL:List aO) (s0:List UInt8):Nat->Int->Option (Way (Int) (Unit))
 | 0,_=>none
 | bw+ 1,nf=>
   cond (decide (nf <(aL.length:Int))) ((idx aL nf).bind fun Jv=>
   cond (decide (Jv.Name=s0)) (some (.out nf)) (wZ aL s0 bw (av (nf+ 1)))) (some (.go ()))
def om (F:Nat) (aL:List aO) (s0:List UInt8):Option (Int):=
 dv (α:=Unit) (wZ aL s0 F 0) fun (_:Unit)=>
 some (-1)
def xd (F:Nat) (aL:List aO):Nat->Int->(List Int)->Option (Way (List Int) (List Int))
 | 0,_,_=>none
 | bw+ 1,lx,pO=>
   cond (decide (0 <=lx)) (cond (decide ((aL.length:Int) <(pO.length:Int))) (some (.out [])) ((dU 8 [lx] pO).bind fun Iq=>
   (idx aL lx).bind fun Bl=>
   (om F aL Bl.b2).bind fun Nm=>
   xd F aL bw Nm Iq)) (some (.go pO))
def xc (F:Nat) (aL:List aO) (bS:Int):Option (List Int):=
 dv (α:=List Int) (xd F aL F bS []) fun (AU:List Int)=>
 some AU
def tH (F:Nat) (kinds_:List Kind) (aL:List aO):Nat->Int->Option (Way (Bool) (Unit))
 | 0,_=>none
 | bw+ 1,g8=>
   cond (decide (g8 <(kinds_.length:Int))) ((idx kinds_ g8).bind fun O8=>
   cond (!decide (O8.aO= [])) ((idx kinds_ g8).bind fun Ob=>
   (om F aL Ob.aO).bind fun XJ=>
   cond (decide (XJ < 0)) (some (.out false)) (tH F kinds_ aL bw (av (g8+ 1)))) (tH F kinds_ aL bw (av (g8+ 1)))) (some (.go ()))
def zC (F:Nat) (aL:List aO) (kinds_:List Kind):Option (Bool):=
 dv (α:=Unit) (tH F kinds_ aL F 0) fun (_:Unit)=>
 some true
def qP (aL:List aO) (ey:List Int):Nat->(List Field)->Int->Option (List Field)
 | 0,_,_=>none
 | bw+ 1,pX,o7=>
   cond (decide (o7 <(ey.length:Int))) ((idx ey o7).bind fun Om=>
   (idx aL Om).bind fun Jo=>
   (dU 40 pX Jo.Fields).bind fun MF=>
   qP aL ey bw MF (av (o7+ 1))) (some pX)
def zx (F:Nat) (aL:List aO) (bS:Int):Option (List Field):=
 (xc F aL bS).bind fun ey=>
 Option.bind (α:=List Field) (qP aL ey F [] 0) fun (uU:List Field)=>
 some uU
def tF (gH:List (List UInt8)) (iT:Method):Nat->Int->Option (Int)
 | 0,_=>none
 | eB+ 1,kV=>
   cond (decide (kV <(gH.length:Int))) ((idx gH kV).bind fun Zb=>
   cond (!decide (Zb=iT.Name)) (tF gH iT eB (av (kV+ 1))) (some kV)) (some kV)
def xb (F:Nat) (aL:List aO) (ey:List Int) (g7:Int):Nat->(List Target)->(List (List UInt8))->Int->Option ((List Target) × (List (List UInt8)))
 | 0,_,_,_=>none
 | c7+ 1,jc,gH,ib=>
   (idx ey g7).bind fun OZ=>
   (idx aL OZ).bind fun pr=>
   cond (decide (ib <(pr.aU.length:Int))) (Option.bind (α:=(List Target) × (List (List UInt8))) ((idx ey g7).bind fun O0=>
   (idx aL O0).bind fun r1=>
   (idx r1.aU ib).bind fun iT=>
   Option.bind (α:=Int) (tF gH iT F 0) fun (sZ:Int)=>
   Option.bind (α:=(List Target) × (List (List UInt8))) (cond (decide (sZ=(gH.length:Int))) ((dU 16 gH [iT.Name]).bind fun MP=>
   (dU 16 jc [(⟨0,0⟩:Target)]).bind fun MQ=>
   some (MQ,MP)) (some (jc,gH))) fun ((sT,sU):(List Target) × (List (List UInt8)))=>
   (idx ey g7).bind fun Bs=>
   (idx sT sZ).bind fun Zc=>
   (some (sT.set (sZ).toNat (⟨Bs,ib⟩:Target))).bind fun MR=>
   some (MR,sU)) fun ((vg,vh):(List Target) × (List (List UInt8)))=>
   xb F aL ey g7 c7 vg vh (av (ib+ 1))) (some (jc,gH))
def xa (F:Nat) (aL:List aO) (ey:List Int):Nat->(List Target)->(List (List UInt8))->Int->Option ((List Target) × (List (List UInt8)))
 | 0,_,_,_=>none
 | bw+ 1,p4,p5,g7=>
   cond (decide (g7 <(ey.length:Int))) (Option.bind (α:=(List Target) × (List (List UInt8))) (Option.bind (α:=(List Target) × (List (List UInt8))) (xb F aL ey g7 F p4 p5 0) fun ((vd,vf):(List Target) × (List (List UInt8)))=>
   some (vd,vf)) fun ((va,vb):(List Target) × (List (List UInt8)))=>
   xa F aL ey bw va vb (av (g7+ 1))) (some (p4,p5))
def Fq (F:Nat) (aL:List aO) (bS:Int):Option ((List (List UInt8)) × (List Target)):=
 (xc F aL bS).bind fun ey=>
 Option.bind (α:=(List Target) × (List (List UInt8))) (xa F aL ey F [] [] 0) fun ((u3,u4):(List Target) × (List (List UInt8)))=>
 some (u4,u3)
end J
